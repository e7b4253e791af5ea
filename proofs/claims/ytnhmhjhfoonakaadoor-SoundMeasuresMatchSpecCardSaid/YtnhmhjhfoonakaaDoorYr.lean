/- The document's numbers: Over, Times. -/
import Derived.Test.YtnhmhjhfoonakaaDoorYo
import Derived.Test.YtnhmhjhfoonakaaDoorNqd
import Derived.Test.YtnhmhjhfoonakaaDoorYn
import Derived.Test.YtnhmhjhfoonakaaDoorYa
set_option linter.unusedSimpArgs false
set_option linter.unusedVariables false
namespace Go.Proofs.YtnhmhjhfoonakaaDoor
open Go.RowKit Go.Dw
theorem sgn_mul (a b : Int) : sgnZ (decide (a < 0) != decide (b < 0)) (a.natAbs * b.natAbs) = a * b := by
  unfold sgnZ
  rw [← Int.natAbs_mul]
  rcases Int.lt_trichotomy a 0 with h | h | h
  · rcases Int.lt_trichotomy b 0 with k | k | k
    · have := Int.mul_pos_of_neg_of_neg h k
      rw [decide_eq_true h, decide_eq_true k]
      simp; omega
    · subst k; simp
    · have := Int.mul_neg_of_neg_of_pos h k
      rw [decide_eq_true h, decide_eq_false (show ¬ b < 0 by omega)]
      simp; omega
  · subst h; simp
  · rcases Int.lt_trichotomy b 0 with k | k | k
    · have := Int.mul_neg_of_pos_of_neg h k
      rw [decide_eq_false (show ¬ a < 0 by omega), decide_eq_true k]
      simp; omega
    · subst k; simp
    · have := Int.mul_pos h k
      rw [decide_eq_false (show ¬ a < 0 by omega), decide_eq_false (show ¬ b < 0 by omega)]
      simp; omega
theorem sden_sgn (r : Rat) : decide (sden r < 0) = decide (r.num < 0) ∧ (sden r).natAbs = r.den := by
  unfold sden
  have := r.den_pos
  by_cases h : r.num < 0
  · rw [if_pos h, decide_eq_true h]
    exact ⟨decide_eq_true (by omega), by simp⟩
  · rw [if_neg h, decide_eq_false h]
    exact ⟨decide_eq_false (by omega), by simp⟩
theorem rover_eq (q r : Rat) (hr : r ≠ 0) : mkRat (sgnZ (decide (q.num < 0) != decide (r.num < 0)) (q.num.natAbs * r.den)) (q.den * r.num.natAbs) = q / r := by
  have h := sden_sgn r
  rw [div_eq q r hr, ← h.1]
  conv => lhs; rw [← h.2]
  rw [sgn_mul]
theorem rtimes_eq (q r : Rat) : mkRat (sgnZ (decide (q.num < 0) != decide (r.num < 0)) (q.num.natAbs * r.num.natAbs)) (q.den * r.den) = q * r := by
  rw [sgn_mul, Rat.mul_def, Rat.normalize_eq_mkRat]
set_option maxRecDepth 100000 in
set_option maxHeartbeats 4000000 in
theorem ROVER_any (neg neg' : Bool) (A A' D D' : Option Addr) (n c m d n' c' m' d' : Nat) (q r : Rat) (hn : n ≤ 10000000) (hm : m ≤ 10000000) (hn' : n' ≤ 10000000) (hm' : m' ≤ 10000000) (hr : r ≠ 0) (w : World) (B : Nat) (hB : B ≤ w.heap.size) (hh : Hid (NumR w B neg A n c D m d q)) (hh' : Hid (NumR w B neg' A' n' c' D' m' d' r)) :
    Calls Tryd.prog 43 #[.agg #[.bool neg, .slice A n c, .slice D m d], .agg #[.bool neg', .slice A' n' c', .slice D' m' d']] w (OutR w (q / r) (n + m') (m + n')) := by
  obtain ⟨W, gx, hW, hgx, HHW, HBX, HSW⟩ := boxes3 w (.cells #[.bool neg, .slice A n c, .slice D m d] 77) (.cells #[.bool neg', .slice A' n' c', .slice D' m' d'] 77) (.cells #[.bool false, .slice none 0 0, .slice none 0 0] 77)
  have HGX := Lib.hid hgx
  obtain ⟨x0, x1, x2, _, _, _⟩ := three_cells HHW.out.1
  obtain ⟨y0, y1, y2, _, _, _⟩ := three_cells HHW.out.2.1
  have HHR := Lib.hid HHW.out.2.2
  have hgw := blk_lt HHW.out.2.2
  have HRW := Lib.hid (hh.out.to HBX.out hB (by have := HSW.out; omega))
  have HRW' := Lib.hid (hh'.out.to HBX.out hB (by have := HSW.out; omega))
  have HBX0 := Lib.hid (HBX.out.size)
  have HQ := Lib.hid (rover_eq q r hr)
  have HZ : Hid (0 < q.den * r.num.natAbs) := Nat.mul_pos q.den_pos (by
    have : r.num ≠ 0 := fun h => hr (Rat.num_eq_zero.1 h)
    omega)
  have HNE : Hid ((!(neg == neg')) = (decide (q.num < 0) != decide (r.num < 0))) := by show _ = _; rw [hh.out.1, hh'.out.1]; rfl
  obtain ⟨sg, hsg⟩ : ∃ sg, (decide (q.num < 0) != decide (r.num < 0)) = sg := ⟨_, rfl⟩
  rw [hsg] at HQ HNE
  clear hsg hr hh hh'
  go_enter Tryd.func43, Tryd.ntmps43
  go_upto_region 1 with (fail)
  rw [← hW, ← hgx]
  clear hW hgx
  obtain ⟨W, rfl⟩ : ∃ Wx : World, Wx = W := ⟨_, rfl⟩
  refine wp_region_text 16 (fun x => x.cell? ⟨gx, 0, none⟩ = some (.bool neg) ∧ x.cell? ⟨gx, 1, none⟩ = some (.slice A n c) ∧ x.cell? ⟨gx, 2, none⟩ = some (.slice D m d) ∧ x.cell? ⟨gx + 1, 0, none⟩ = some (.bool neg') ∧ x.cell? ⟨gx + 1, 1, none⟩ = some (.slice A' n' c') ∧ x.cell? ⟨gx + 1, 2, none⟩ = some (.slice D' m' d')) (by kernel_rfl) (by kernel_rfl) ?_
  have hS : W.drew.cell? ⟨gx, 0, none⟩ = some (.bool neg) ∧ W.drew.cell? ⟨gx, 1, none⟩ = some (.slice A n c) ∧ W.drew.cell? ⟨gx, 2, none⟩ = some (.slice D m d) ∧ W.drew.cell? ⟨gx + 1, 0, none⟩ = some (.bool neg') ∧ W.drew.cell? ⟨gx + 1, 1, none⟩ = some (.slice A' n' c') ∧ W.drew.cell? ⟨gx + 1, 2, none⟩ = some (.slice D' m' d') := ⟨x0, x1, x2, y0, y1, y2⟩
  have hS0 := And.intro x0 (And.intro x1 (And.intro x2 (And.intro y0 (And.intro y1 y2))))
  refine HT.take (i := 0) (oi := _) (v := ?_) rfl (by kernel_rfl) (by kernel_rfl) (by decide) (fun _ _ _ h => h) (Or.inl ⟨by rfl, ?_⟩) hS ?_
  rotate_left
  · intro wz
    go_simp
    try with_reducible rfl
  simp only [List.getElem_toArray, List.getElem_cons_succ, List.getElem_cons_zero, Act.put, List.setIfInBounds_toArray, List.set_cons_zero, List.set_cons_succ]
  refine HT.load (i := 1) (oi := _) (v := ?_) rfl (by kernel_rfl) (by kernel_rfl) (by decide) (fun _ _ _ h => h) (by kernel_rfl) (Or.inl ⟨by rfl, ?_⟩) hS ?_
  rotate_left
  · intro wz hwz
    try dsimp only at hwz
    go_simp
    try with_reducible rfl
  simp only [List.getElem_toArray, List.getElem_cons_succ, List.getElem_cons_zero, Act.put, List.setIfInBounds_toArray, List.set_cons_zero, List.set_cons_succ]
  refine HT.take (i := 2) (oi := _) (v := ?_) rfl (by kernel_rfl) (by kernel_rfl) (by decide) (fun _ _ _ h => h) (Or.inl ⟨by rfl, ?_⟩) hS ?_
  rotate_left
  · intro wz
    go_simp
    try with_reducible rfl
  simp only [List.getElem_toArray, List.getElem_cons_succ, List.getElem_cons_zero, Act.put, List.setIfInBounds_toArray, List.set_cons_zero, List.set_cons_succ]
  refine HT.load (i := 3) (oi := _) (v := ?_) rfl (by kernel_rfl) (by kernel_rfl) (by decide) (fun _ _ _ h => h) (by kernel_rfl) (Or.inl ⟨by rfl, ?_⟩) hS ?_
  rotate_left
  · intro wz hwz
    try dsimp only at hwz
    go_simp
    try with_reducible rfl
  simp only [List.getElem_toArray, List.getElem_cons_succ, List.getElem_cons_zero, Act.put, List.setIfInBounds_toArray, List.set_cons_zero, List.set_cons_succ]
  refine HT.take (i := 4) (oi := _) (v := ?_) rfl (by kernel_rfl) (by kernel_rfl) (by decide) (fun _ _ _ h => h) (Or.inl ⟨by rfl, ?_⟩) hS ?_
  rotate_left
  · intro wz
    go_simp
    try with_reducible rfl
  simp only [List.getElem_toArray, List.getElem_cons_succ, List.getElem_cons_zero, Act.put, List.setIfInBounds_toArray, List.set_cons_zero, List.set_cons_succ]
  refine HT.take (i := 5) (oi := _) (v := ?_) rfl (by kernel_rfl) (by kernel_rfl) (by decide) (fun _ _ _ h => h) (Or.inl ⟨by rfl, ?_⟩) hS ?_
  rotate_left
  · intro wz
    go_simp
    try with_reducible rfl
  simp only [List.getElem_toArray, List.getElem_cons_succ, List.getElem_cons_zero, Act.put, List.setIfInBounds_toArray, List.set_cons_zero, List.set_cons_succ]
  refine HT.load (i := 6) (oi := _) (v := ?_) rfl (by kernel_rfl) (by kernel_rfl) (by decide) (fun _ _ _ h => h) (by kernel_rfl) (Or.inl ⟨by rfl, ?_⟩) hS ?_
  rotate_left
  · intro wz hwz
    try dsimp only at hwz
    go_simp
    try with_reducible rfl
  simp only [List.getElem_toArray, List.getElem_cons_succ, List.getElem_cons_zero, Act.put, List.setIfInBounds_toArray, List.set_cons_zero, List.set_cons_succ]
  refine HT.take (i := 7) (oi := _) (v := ?_) rfl (by kernel_rfl) (by kernel_rfl) (by decide) (fun _ _ _ h => h) (Or.inl ⟨by rfl, ?_⟩) hS ?_
  rotate_left
  · intro wz
    go_simp
    try with_reducible rfl
  simp only [List.getElem_toArray, List.getElem_cons_succ, List.getElem_cons_zero, Act.put, List.setIfInBounds_toArray, List.set_cons_zero, List.set_cons_succ]
  refine HT.load (i := 8) (oi := _) (v := ?_) rfl (by kernel_rfl) (by kernel_rfl) (by decide) (fun _ _ _ h => h) (by kernel_rfl) (Or.inl ⟨by rfl, ?_⟩) hS ?_
  rotate_left
  · intro wz hwz
    try dsimp only at hwz
    go_simp
    try with_reducible rfl
  simp only [List.getElem_toArray, List.getElem_cons_succ, List.getElem_cons_zero, Act.put, List.setIfInBounds_toArray, List.set_cons_zero, List.set_cons_succ]
  refine HT.take (i := 10) (oi := _) (v := ?_) rfl (by kernel_rfl) (by kernel_rfl) (by decide) (fun _ _ _ h => h) (Or.inl ⟨by rfl, ?_⟩) hS ?_
  rotate_left
  · intro wz
    go_simp
    try with_reducible rfl
  simp only [List.getElem_toArray, List.getElem_cons_succ, List.getElem_cons_zero, Act.put, List.setIfInBounds_toArray, List.set_cons_zero, List.set_cons_succ]
  refine HT.load (i := 11) (oi := _) (v := ?_) rfl (by kernel_rfl) (by kernel_rfl) (by decide) (fun _ _ _ h => h) (by kernel_rfl) (Or.inl ⟨by rfl, ?_⟩) hS ?_
  rotate_left
  · intro wz hwz
    try dsimp only at hwz
    go_simp
    try with_reducible rfl
  simp only [List.getElem_toArray, List.getElem_cons_succ, List.getElem_cons_zero, Act.put, List.setIfInBounds_toArray, List.set_cons_zero, List.set_cons_succ]
  refine HT.take (i := 12) (oi := _) (v := ?_) rfl (by kernel_rfl) (by kernel_rfl) (by decide) (fun _ _ _ h => h) (Or.inl ⟨by rfl, ?_⟩) hS ?_
  rotate_left
  · intro wz
    go_simp
    try with_reducible rfl
  simp only [List.getElem_toArray, List.getElem_cons_succ, List.getElem_cons_zero, Act.put, List.setIfInBounds_toArray, List.set_cons_zero, List.set_cons_succ]
  refine HT.load (i := 13) (oi := _) (v := ?_) rfl (by kernel_rfl) (by kernel_rfl) (by decide) (fun _ _ _ h => h) (by kernel_rfl) (Or.inl ⟨by rfl, ?_⟩) hS ?_
  rotate_left
  · intro wz hwz
    try dsimp only at hwz
    go_simp
    try with_reducible rfl
  simp only [List.getElem_toArray, List.getElem_cons_succ, List.getElem_cons_zero, Act.put, List.setIfInBounds_toArray, List.set_cons_zero, List.set_cons_succ]
  refine HT.one (i := 9) (o := _) rfl (by kernel_rfl) (by decide) (by rfl) ?_
  intro K hK
  go_simp
  refine (RTIMES_any A D' n c _ m' d' _ (by omega) (by omega) _ W.heap.size (by exact Nat.le_refl _) (by exact Lib.hid HRW.out.2.1) (by exact Lib.hid HRW'.out.2.2)).mono ?_
  rintro e w1 ⟨A1, n1, c1, rfl, h1, k1, hb1⟩
  replace hb1 : Below W.heap.size W w1 := below_undrew hb1
  have H1 := Lib.hid h1
  have HB1 := Lib.hid hb1
  clear h1 hb1
  refine hK.out _ _ (six_keep hS0 HB1.out (by omega) (by omega)) ?_
  clear hK K hS
  have hS := six_keep hS0 HB1.out (by omega) (by omega)
  try simp only [List.getElem_toArray, List.getElem_cons_succ, List.getElem_cons_zero, Act.put, List.setIfInBounds_toArray, List.set_cons_zero, List.set_cons_succ]
  refine HT.one (i := 14) (o := _) rfl (by kernel_rfl) (by decide) (by rfl) ?_
  intro K hK
  go_simp
  refine (RTIMES_any D A' m d _ n' c' _ (by omega) (by omega) _ W.heap.size (by exact HB1.out.size) (by exact Lib.hid (HRW.out.2.2.below HB1.out (Nat.le_refl _))) (by exact Lib.hid (HRW'.out.2.1.below HB1.out (Nat.le_refl _)))).mono ?_
  rintro e w2 ⟨A2, n2, c2, rfl, h2, k2, hb2⟩
  have H2 := Lib.hid h2
  have HB2 := Lib.hid (HB1.out.trans (hb2.mono HB1.out.size))
  have HL2 := Lib.hid hb2
  clear h2 hb2
  refine hK.out _ _ (six_keep hS0 HB2.out (by omega) (by omega)) ?_
  clear hK K hS
  have hS := six_keep hS0 HB2.out (by omega) (by omega)
  try simp only [List.getElem_toArray, List.getElem_cons_succ, List.getElem_cons_zero, Act.put, List.setIfInBounds_toArray, List.set_cons_zero, List.set_cons_succ]
  rw [HNE.out]
  refine HT.one (i := 15) (o := _) rfl (by kernel_rfl) (by decide) (by rfl) ?_
  intro K hK
  go_simp
  refine (RLOWEST_any sg A1 A2 n1 c1 _ n2 c2 _ (by omega) (by omega) HZ.out _ w2.heap.size (Nat.le_refl _) (Lib.hid (H1.out.to HL2.out (Nat.le_refl _) HL2.out.size)) H2).mono ?_
  rintro e w3 ⟨ng3, A3, n3, c3, A4, n4, c4, rfl, h3, k3, k4, hb3⟩
  have H3 := Lib.hid h3
  have HB3 := Lib.hid (HB2.out.trans (hb3.mono HB2.out.size))
  have HL3 := Lib.hid hb3
  clear h3 hb3
  refine hK.out _ _ (six_keep hS0 HB3.out (by omega) (by omega)) ?_
  clear hK K hS
  have hS := six_keep hS0 HB3.out (by omega) (by omega)
  try simp only [List.getElem_toArray, List.getElem_cons_succ, List.getElem_cons_zero, Act.put, List.setIfInBounds_toArray, List.set_cons_zero, List.set_cons_succ]
  have hhx := (HB3.out.block (gx + 1 + 1) hgw).trans HHR.out
  obtain ⟨hr0, hr1, hr2, hf0, hf1, hf2⟩ := three_cells hhx
  have HHX := Lib.hid hhx
  clear hhx
  refine HT.done (by kernel_rfl) ?_
  clear hS
  simp only [List.drop_succ_cons, List.drop_zero]
  go_wp2_with fail
  rw [HQ.out] at H3
  exact end_rnum rfl rfl rfl hr0 hr1 hr2 (outR_set (q := q / r) H3.out.1 (by have := HGX.out; omega) ⟨_, _, HHX.out⟩ H3.out.2.1 H3.out.2.2 (HBX.out.trans (HB3.out.mono HBX0.out)) (by omega) (by omega))
end Go.Proofs.YtnhmhjhfoonakaaDoor

/- The document's limbs: add. -/
set_option linter.unusedSimpArgs false
set_option linter.unusedVariables false
namespace Go.Proofs.YtnhmhjhfoonakaaDoor
open Go.RowKit Go.Dw
end Go.Proofs.YtnhmhjhfoonakaaDoor

/- The document's numbers: Times, Minus, Plus. -/
set_option linter.unusedSimpArgs false
set_option linter.unusedVariables false
namespace Go.Proofs.YtnhmhjhfoonakaaDoor
open Go.RowKit Go.Dw
theorem mul_den (q : Rat) (d : Nat) (hd : 0 < d) : (q.num * (d : Int)).natAbs = q.num.natAbs * d ∧ decide (q.num * (d : Int) < 0) = decide (q.num < 0) := by
  refine ⟨by rw [Int.natAbs_mul, Int.natAbs_natCast], ?_⟩
  rcases Int.lt_trichotomy q.num 0 with h | h | h
  · rw [decide_eq_true h, decide_eq_true (Int.mul_neg_of_neg_of_pos h (by omega))]
  · rw [h]; simp
  · have := Int.mul_pos h (show (0 : Int) < d by omega)
    rw [decide_eq_false (by omega), decide_eq_false (by omega)]
theorem sgn_same (u v : Int) (h : decide (u < 0) = decide (v < 0)) : sgnZ (decide (u < 0)) (u.natAbs + v.natAbs) = u + v := by
  unfold sgnZ
  by_cases hu : u < 0
  · have hv : v < 0 := by rw [decide_eq_true hu] at h; simpa using h.symm
    rw [decide_eq_true hu, if_pos rfl]; omega
  · have hv : ¬ v < 0 := by rw [decide_eq_false hu] at h; simpa using h.symm
    rw [decide_eq_false hu, if_neg (by simp)]; omega
theorem sgn_less (u v : Int) (h : decide (u < 0) ≠ decide (v < 0)) (hle : v.natAbs ≤ u.natAbs) : sgnZ (decide (u < 0)) (u.natAbs - v.natAbs) = u + v := by
  unfold sgnZ
  by_cases hu : u < 0
  · have hv : ¬ v < 0 := fun k => h (by rw [decide_eq_true hu, decide_eq_true k])
    rw [decide_eq_true hu, if_pos rfl]; omega
  · have hv : v < 0 := Classical.byContradiction fun k => h (by rw [decide_eq_false hu, decide_eq_false k])
    rw [decide_eq_false hu, if_neg (by simp)]; omega
theorem rplus_same (q r : Rat) (h : decide (q.num < 0) = decide (r.num < 0)) : mkRat (sgnZ (decide (q.num < 0)) (q.num.natAbs * r.den + r.num.natAbs * q.den)) (q.den * r.den) = q + r := by
  obtain ⟨a1, a2⟩ := mul_den q r.den r.den_pos
  obtain ⟨b1, b2⟩ := mul_den r q.den q.den_pos
  rw [← a1, ← b1, ← a2, sgn_same _ _ (by rw [a2, b2, h]), add_eq]
theorem rplus_ge (q r : Rat) (h : decide (q.num < 0) ≠ decide (r.num < 0)) (hle : r.num.natAbs * q.den ≤ q.num.natAbs * r.den) : mkRat (sgnZ (decide (q.num < 0)) (q.num.natAbs * r.den - r.num.natAbs * q.den)) (q.den * r.den) = q + r := by
  obtain ⟨a1, a2⟩ := mul_den q r.den r.den_pos
  obtain ⟨b1, b2⟩ := mul_den r q.den q.den_pos
  rw [← a1, ← b1] at hle
  rw [← a1, ← b1, ← a2, sgn_less _ _ (by rw [a2, b2]; exact h) hle, add_eq]
theorem rplus_lt (q r : Rat) (h : decide (q.num < 0) ≠ decide (r.num < 0)) (hle : q.num.natAbs * r.den ≤ r.num.natAbs * q.den) : mkRat (sgnZ (decide (r.num < 0)) (r.num.natAbs * q.den - q.num.natAbs * r.den)) (q.den * r.den) = q + r := by
  rw [Nat.mul_comm q.den, Rat.add_comm]
  exact rplus_ge r q (Ne.symm h) hle
end Go.Proofs.YtnhmhjhfoonakaaDoor
