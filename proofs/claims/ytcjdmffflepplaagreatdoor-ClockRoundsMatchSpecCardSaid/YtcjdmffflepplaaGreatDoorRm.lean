/- The document's numbers: Times, Minus, Plus. -/
import Derived.Test.YtcjdmffflepplaaGreatDoorRf
import Derived.Test.YtcjdmffflepplaaGreatDoorRl
set_option linter.unusedSimpArgs false
set_option linter.unusedVariables false
namespace Go.Proofs.YtcjdmffflepplaaGreatDoor
open Go.RowKit Go.Dw
set_option maxRecDepth 100000 in
set_option maxHeartbeats 4000000 in
theorem RNTIMES_any (neg neg' : Bool) (A A' D D' : Option Addr) (n c m d n' c' m' d' : Nat) (q r : Rat) (hn : n ≤ 10000000) (hm : m ≤ 10000000) (hn' : n' ≤ 10000000) (hm' : m' ≤ 10000000) (w : World) (B : Nat) (hB : B ≤ w.heap.size) (hh : Hid (NumR w B neg A n c D m d q)) (hh' : Hid (NumR w B neg' A' n' c' D' m' d' r)) :
    Calls Tryz.prog 36 #[.agg #[.bool neg, .slice A n c, .slice D m d], .agg #[.bool neg', .slice A' n' c', .slice D' m' d']] w (OutR w (q * r) (n + n') (m + m')) := by
  obtain ⟨W, gx, hW, hgx, HHW, HBX, HSW⟩ := boxes3 w (.cells #[.bool neg, .slice A n c, .slice D m d] 55) (.cells #[.bool neg', .slice A' n' c', .slice D' m' d'] 55) (.cells #[.bool false, .slice none 0 0, .slice none 0 0] 55)
  have HGX := Lib.hid hgx
  obtain ⟨x0, x1, x2, _, _, _⟩ := three_cells HHW.out.1
  obtain ⟨y0, y1, y2, _, _, _⟩ := three_cells HHW.out.2.1
  have HHR := Lib.hid HHW.out.2.2
  have hgw := blk_lt HHW.out.2.2
  have HRW := Lib.hid (hh.out.to HBX.out hB (by have := HSW.out; omega))
  have HRW' := Lib.hid (hh'.out.to HBX.out hB (by have := HSW.out; omega))
  have HBX0 := Lib.hid (HBX.out.size)
  have HQ := Lib.hid (rtimes_eq q r)
  have HZ : Hid (0 < q.den * r.den) := Nat.mul_pos q.den_pos r.den_pos
  have HNE : Hid ((!(neg == neg')) = (decide (q.num < 0) != decide (r.num < 0))) := by show _ = _; rw [hh.out.1, hh'.out.1]; rfl
  obtain ⟨sg, hsg⟩ : ∃ sg, (decide (q.num < 0) != decide (r.num < 0)) = sg := ⟨_, rfl⟩
  rw [hsg] at HQ HNE
  clear hsg hh hh'
  go_enter Tryz.func36, Tryz.ntmps36
  go_upto_region 1 with (fail)
  rw [← hW, ← hgx]
  clear hW hgx
  obtain ⟨W, rfl⟩ : ∃ Wx : World, Wx = W := ⟨_, rfl⟩
  refine wp_region_text 16 (fun x => x.cell? ⟨gx, 0, none⟩ = some (.bool neg) ∧ x.cell? ⟨gx, 1, none⟩ = some (.slice A n c) ∧ x.cell? ⟨gx, 2, none⟩ = some (.slice D m d) ∧ x.cell? ⟨gx + 1, 0, none⟩ = some (.bool neg') ∧ x.cell? ⟨gx + 1, 1, none⟩ = some (.slice A' n' c') ∧ x.cell? ⟨gx + 1, 2, none⟩ = some (.slice D' m' d')) (by kernel_rfl) (by kernel_rfl) ?_
  have hS : W.drew.cell? ⟨gx, 0, none⟩ = some (.bool neg) ∧ W.drew.cell? ⟨gx, 1, none⟩ = some (.slice A n c) ∧ W.drew.cell? ⟨gx, 2, none⟩ = some (.slice D m d) ∧ W.drew.cell? ⟨gx + 1, 0, none⟩ = some (.bool neg') ∧ W.drew.cell? ⟨gx + 1, 1, none⟩ = some (.slice A' n' c') ∧ W.drew.cell? ⟨gx + 1, 2, none⟩ = some (.slice D' m' d') := ⟨x0, x1, x2, y0, y1, y2⟩
  have hS0 := And.intro x0 (And.intro x1 (And.intro x2 (And.intro y0 (And.intro y1 y2))))
  refine HT.take (i := 0) (oi := _) (v := ?_) rfl (by kernel_rfl) (by kernel_rfl) (by decide) (fun _ _ _ h => h) (Or.inl ⟨by rfl, ?_⟩) hS ?_
  rotate_left
  · intro wz
    go_simp
    try with_reducible rfl
  simp only [List.getElem_toArray, List.getElem_cons_succ, List.getElem_cons_zero, Act.put, List.setIfInBounds_toArray, List.set_cons_zero, List.set_cons_succ]
  refine HT.load (i := 1) (oi := _) (v := ?_) rfl (by kernel_rfl) (by kernel_rfl) (by decide) (fun _ _ _ h => h) (by kernel_rfl) (Or.inl ⟨by rfl, ?_⟩) hS ?_
  rotate_left
  · intro wz hwz
    try dsimp only at hwz
    go_simp
    try with_reducible rfl
  simp only [List.getElem_toArray, List.getElem_cons_succ, List.getElem_cons_zero, Act.put, List.setIfInBounds_toArray, List.set_cons_zero, List.set_cons_succ]
  refine HT.take (i := 2) (oi := _) (v := ?_) rfl (by kernel_rfl) (by kernel_rfl) (by decide) (fun _ _ _ h => h) (Or.inl ⟨by rfl, ?_⟩) hS ?_
  rotate_left
  · intro wz
    go_simp
    try with_reducible rfl
  simp only [List.getElem_toArray, List.getElem_cons_succ, List.getElem_cons_zero, Act.put, List.setIfInBounds_toArray, List.set_cons_zero, List.set_cons_succ]
  refine HT.load (i := 3) (oi := _) (v := ?_) rfl (by kernel_rfl) (by kernel_rfl) (by decide) (fun _ _ _ h => h) (by kernel_rfl) (Or.inl ⟨by rfl, ?_⟩) hS ?_
  rotate_left
  · intro wz hwz
    try dsimp only at hwz
    go_simp
    try with_reducible rfl
  simp only [List.getElem_toArray, List.getElem_cons_succ, List.getElem_cons_zero, Act.put, List.setIfInBounds_toArray, List.set_cons_zero, List.set_cons_succ]
  refine HT.take (i := 4) (oi := _) (v := ?_) rfl (by kernel_rfl) (by kernel_rfl) (by decide) (fun _ _ _ h => h) (Or.inl ⟨by rfl, ?_⟩) hS ?_
  rotate_left
  · intro wz
    go_simp
    try with_reducible rfl
  simp only [List.getElem_toArray, List.getElem_cons_succ, List.getElem_cons_zero, Act.put, List.setIfInBounds_toArray, List.set_cons_zero, List.set_cons_succ]
  refine HT.take (i := 5) (oi := _) (v := ?_) rfl (by kernel_rfl) (by kernel_rfl) (by decide) (fun _ _ _ h => h) (Or.inl ⟨by rfl, ?_⟩) hS ?_
  rotate_left
  · intro wz
    go_simp
    try with_reducible rfl
  simp only [List.getElem_toArray, List.getElem_cons_succ, List.getElem_cons_zero, Act.put, List.setIfInBounds_toArray, List.set_cons_zero, List.set_cons_succ]
  refine HT.load (i := 6) (oi := _) (v := ?_) rfl (by kernel_rfl) (by kernel_rfl) (by decide) (fun _ _ _ h => h) (by kernel_rfl) (Or.inl ⟨by rfl, ?_⟩) hS ?_
  rotate_left
  · intro wz hwz
    try dsimp only at hwz
    go_simp
    try with_reducible rfl
  simp only [List.getElem_toArray, List.getElem_cons_succ, List.getElem_cons_zero, Act.put, List.setIfInBounds_toArray, List.set_cons_zero, List.set_cons_succ]
  refine HT.take (i := 7) (oi := _) (v := ?_) rfl (by kernel_rfl) (by kernel_rfl) (by decide) (fun _ _ _ h => h) (Or.inl ⟨by rfl, ?_⟩) hS ?_
  rotate_left
  · intro wz
    go_simp
    try with_reducible rfl
  simp only [List.getElem_toArray, List.getElem_cons_succ, List.getElem_cons_zero, Act.put, List.setIfInBounds_toArray, List.set_cons_zero, List.set_cons_succ]
  refine HT.load (i := 8) (oi := _) (v := ?_) rfl (by kernel_rfl) (by kernel_rfl) (by decide) (fun _ _ _ h => h) (by kernel_rfl) (Or.inl ⟨by rfl, ?_⟩) hS ?_
  rotate_left
  · intro wz hwz
    try dsimp only at hwz
    go_simp
    try with_reducible rfl
  simp only [List.getElem_toArray, List.getElem_cons_succ, List.getElem_cons_zero, Act.put, List.setIfInBounds_toArray, List.set_cons_zero, List.set_cons_succ]
  refine HT.take (i := 10) (oi := _) (v := ?_) rfl (by kernel_rfl) (by kernel_rfl) (by decide) (fun _ _ _ h => h) (Or.inl ⟨by rfl, ?_⟩) hS ?_
  rotate_left
  · intro wz
    go_simp
    try with_reducible rfl
  simp only [List.getElem_toArray, List.getElem_cons_succ, List.getElem_cons_zero, Act.put, List.setIfInBounds_toArray, List.set_cons_zero, List.set_cons_succ]
  refine HT.load (i := 11) (oi := _) (v := ?_) rfl (by kernel_rfl) (by kernel_rfl) (by decide) (fun _ _ _ h => h) (by kernel_rfl) (Or.inl ⟨by rfl, ?_⟩) hS ?_
  rotate_left
  · intro wz hwz
    try dsimp only at hwz
    go_simp
    try with_reducible rfl
  simp only [List.getElem_toArray, List.getElem_cons_succ, List.getElem_cons_zero, Act.put, List.setIfInBounds_toArray, List.set_cons_zero, List.set_cons_succ]
  refine HT.take (i := 12) (oi := _) (v := ?_) rfl (by kernel_rfl) (by kernel_rfl) (by decide) (fun _ _ _ h => h) (Or.inl ⟨by rfl, ?_⟩) hS ?_
  rotate_left
  · intro wz
    go_simp
    try with_reducible rfl
  simp only [List.getElem_toArray, List.getElem_cons_succ, List.getElem_cons_zero, Act.put, List.setIfInBounds_toArray, List.set_cons_zero, List.set_cons_succ]
  refine HT.load (i := 13) (oi := _) (v := ?_) rfl (by kernel_rfl) (by kernel_rfl) (by decide) (fun _ _ _ h => h) (by kernel_rfl) (Or.inl ⟨by rfl, ?_⟩) hS ?_
  rotate_left
  · intro wz hwz
    try dsimp only at hwz
    go_simp
    try with_reducible rfl
  simp only [List.getElem_toArray, List.getElem_cons_succ, List.getElem_cons_zero, Act.put, List.setIfInBounds_toArray, List.set_cons_zero, List.set_cons_succ]
  refine HT.one (i := 9) (o := _) rfl (by kernel_rfl) (by decide) (by rfl) ?_
  intro K hK
  go_simp
  refine (RTIMES_any A A' n c _ n' c' _ (by omega) (by omega) _ W.heap.size (by exact Nat.le_refl _) (by exact Lib.hid HRW.out.2.1) (by exact Lib.hid HRW'.out.2.1)).mono ?_
  rintro e w1 ⟨A1, n1, c1, rfl, h1, k1, hb1⟩
  replace hb1 : Below W.heap.size W w1 := below_undrew hb1
  have H1 := Lib.hid h1
  have HB1 := Lib.hid hb1
  clear h1 hb1
  refine hK.out _ _ (six_keep hS0 HB1.out (by omega) (by omega)) ?_
  clear hK K hS
  have hS := six_keep hS0 HB1.out (by omega) (by omega)
  try simp only [List.getElem_toArray, List.getElem_cons_succ, List.getElem_cons_zero, Act.put, List.setIfInBounds_toArray, List.set_cons_zero, List.set_cons_succ]
  refine HT.one (i := 14) (o := _) rfl (by kernel_rfl) (by decide) (by rfl) ?_
  intro K hK
  go_simp
  refine (RTIMES_any D D' m d _ m' d' _ (by omega) (by omega) _ W.heap.size (by exact HB1.out.size) (by exact Lib.hid (HRW.out.2.2.below HB1.out (Nat.le_refl _))) (by exact Lib.hid (HRW'.out.2.2.below HB1.out (Nat.le_refl _)))).mono ?_
  rintro e w2 ⟨A2, n2, c2, rfl, h2, k2, hb2⟩
  have H2 := Lib.hid h2
  have HB2 := Lib.hid (HB1.out.trans (hb2.mono HB1.out.size))
  have HL2 := Lib.hid hb2
  clear h2 hb2
  refine hK.out _ _ (six_keep hS0 HB2.out (by omega) (by omega)) ?_
  clear hK K hS
  have hS := six_keep hS0 HB2.out (by omega) (by omega)
  try simp only [List.getElem_toArray, List.getElem_cons_succ, List.getElem_cons_zero, Act.put, List.setIfInBounds_toArray, List.set_cons_zero, List.set_cons_succ]
  rw [HNE.out]
  refine HT.one (i := 15) (o := _) rfl (by kernel_rfl) (by decide) (by rfl) ?_
  intro K hK
  go_simp
  refine (RLOWEST_any sg A1 A2 n1 c1 _ n2 c2 _ (by omega) (by omega) HZ.out _ w2.heap.size (Nat.le_refl _) (Lib.hid (H1.out.to HL2.out (Nat.le_refl _) HL2.out.size)) H2).mono ?_
  rintro e w3 ⟨ng3, A3, n3, c3, A4, n4, c4, rfl, h3, k3, k4, hb3⟩
  have H3 := Lib.hid h3
  have HB3 := Lib.hid (HB2.out.trans (hb3.mono HB2.out.size))
  have HL3 := Lib.hid hb3
  clear h3 hb3
  refine hK.out _ _ (six_keep hS0 HB3.out (by omega) (by omega)) ?_
  clear hK K hS
  have hS := six_keep hS0 HB3.out (by omega) (by omega)
  try simp only [List.getElem_toArray, List.getElem_cons_succ, List.getElem_cons_zero, Act.put, List.setIfInBounds_toArray, List.set_cons_zero, List.set_cons_succ]
  have hhx := (HB3.out.block (gx + 1 + 1) hgw).trans HHR.out
  obtain ⟨hr0, hr1, hr2, hf0, hf1, hf2⟩ := three_cells hhx
  have HHX := Lib.hid hhx
  clear hhx
  refine HT.done (by kernel_rfl) ?_
  clear hS
  simp only [List.drop_succ_cons, List.drop_zero]
  go_wp2_with fail
  rw [HQ.out] at H3
  exact end_rnum rfl rfl rfl hr0 hr1 hr2 (outR_set (q := q * r) H3.out.1 (by have := HGX.out; omega) ⟨_, _, HHX.out⟩ H3.out.2.1 H3.out.2.2 (HBX.out.trans (HB3.out.mono HBX0.out)) (by omega) (by omega))
set_option maxRecDepth 100000 in
set_option maxHeartbeats 1000000 in
theorem RMINUS_any (neg : Bool) (A D : Option Addr) (n c m d : Nat) (q : Rat) (w : World) (B : Nat) (hB : B ≤ w.heap.size) (hh : Hid (NumR w B neg A n c D m d q)) :
    Calls Tryz.prog 102 #[.agg #[.bool neg, .slice A n c, .slice D m d]] w (OutR w (-q) n m) := by
  obtain ⟨W, gx, hW, hgx, HHW, HBW, HSW⟩ := boxes2 w (.cells #[.bool neg, .slice A n c, .slice D m d] 55) (.cells #[.bool false, .slice none 0 0, .slice none 0 0] 55)
  have HGX := Lib.hid hgx
  obtain ⟨x0, x1, x2, _, _, _⟩ := three_cells HHW.out.1
  obtain ⟨hr0, hr1, hr2, hf0, hf1, hf2⟩ := three_cells HHW.out.2
  have HHX := Lib.hid HHW.out.2
  have hgw := blk_lt HHW.out.2
  have HRW := Lib.hid (hh.out.to HBW.out hB (by have := HSW.out; omega))
  have HNEG := Lib.hid hh.out.1
  have HPOS := Lib.hid (hh.out.2.1.pos_iff (by omega))
  go_enter Tryz.func102, Tryz.ntmps102
  go_upto_region 1 with (fail)
  rw [← hW, ← hgx]
  clear hW hgx HHW
  cases neg with
  | true =>
    have HS : Hid (false = decide ((-q).num < 0)) := by
      have hz : q.num < 0 := by have := HNEG.out; simpa using this
      show _ = _; rw [Rat.neg_num]; exact (decide_eq_false (by omega)).symm
    go_wp2_with fail
    exact end_rnum rfl rfl rfl hr0 hr1 hr2 (outR_set (q := -q) HS.out (by have := HGX.out; omega) ⟨_, _, HHX.out⟩ (by rw [Rat.neg_num, Int.natAbs_neg]; exact HRW.out.2.1) (by rw [Rat.neg_den]; exact HRW.out.2.2) HBW.out (Nat.le_refl _) (Nat.le_refl _))
  | false =>
    have hz : ¬ q.num < 0 := by have := HNEG.out; simpa using this
    by_cases hn : 0 < n
    · have HS : Hid (true = decide ((-q).num < 0)) := by
        have := HPOS.out.1 hn
        show _ = _; rw [Rat.neg_num]; exact (decide_eq_true (by omega)).symm
      clear hz
      have hn9 : (0 : Int) < (n : Int) := by omega
      go_wp2_with fail
      exact end_rnum rfl rfl rfl hr0 hr1 hr2 (outR_set (q := -q) HS.out (by have := HGX.out; omega) ⟨_, _, HHX.out⟩ (by rw [Rat.neg_num, Int.natAbs_neg]; exact HRW.out.2.1) (by rw [Rat.neg_den]; exact HRW.out.2.2) HBW.out (Nat.le_refl _) (Nat.le_refl _))
    · have HS : Hid (false = decide ((-q).num < 0)) := by
        have : ¬ 0 < q.num.natAbs := fun h => hn (HPOS.out.2 h)
        show _ = _; rw [Rat.neg_num]; exact (decide_eq_false (by omega)).symm
      clear hz
      have hn9 : ¬ (0 : Int) < (n : Int) := by omega
      go_wp2_with fail
      exact end_rnum rfl rfl rfl hr0 hr1 hr2 (outR_set (q := -q) HS.out (by have := HGX.out; omega) ⟨_, _, HHX.out⟩ (by rw [Rat.neg_num, Int.natAbs_neg]; exact HRW.out.2.1) (by rw [Rat.neg_den]; exact HRW.out.2.2) HBW.out (Nat.le_refl _) (Nat.le_refl _))
theorem mul_den (q : Rat) (d : Nat) (hd : 0 < d) : (q.num * (d : Int)).natAbs = q.num.natAbs * d ∧ decide (q.num * (d : Int) < 0) = decide (q.num < 0) := by
  refine ⟨by rw [Int.natAbs_mul, Int.natAbs_natCast], ?_⟩
  rcases Int.lt_trichotomy q.num 0 with h | h | h
  · rw [decide_eq_true h, decide_eq_true (Int.mul_neg_of_neg_of_pos h (by omega))]
  · rw [h]; simp
  · have := Int.mul_pos h (show (0 : Int) < d by omega)
    rw [decide_eq_false (by omega), decide_eq_false (by omega)]
theorem sgn_same (u v : Int) (h : decide (u < 0) = decide (v < 0)) : sgnZ (decide (u < 0)) (u.natAbs + v.natAbs) = u + v := by
  unfold sgnZ
  by_cases hu : u < 0
  · have hv : v < 0 := by rw [decide_eq_true hu] at h; simpa using h.symm
    rw [decide_eq_true hu, if_pos rfl]; omega
  · have hv : ¬ v < 0 := by rw [decide_eq_false hu] at h; simpa using h.symm
    rw [decide_eq_false hu, if_neg (by simp)]; omega
theorem sgn_less (u v : Int) (h : decide (u < 0) ≠ decide (v < 0)) (hle : v.natAbs ≤ u.natAbs) : sgnZ (decide (u < 0)) (u.natAbs - v.natAbs) = u + v := by
  unfold sgnZ
  by_cases hu : u < 0
  · have hv : ¬ v < 0 := fun k => h (by rw [decide_eq_true hu, decide_eq_true k])
    rw [decide_eq_true hu, if_pos rfl]; omega
  · have hv : v < 0 := Classical.byContradiction fun k => h (by rw [decide_eq_false hu, decide_eq_false k])
    rw [decide_eq_false hu, if_neg (by simp)]; omega
theorem rplus_same (q r : Rat) (h : decide (q.num < 0) = decide (r.num < 0)) : mkRat (sgnZ (decide (q.num < 0)) (q.num.natAbs * r.den + r.num.natAbs * q.den)) (q.den * r.den) = q + r := by
  obtain ⟨a1, a2⟩ := mul_den q r.den r.den_pos
  obtain ⟨b1, b2⟩ := mul_den r q.den q.den_pos
  rw [← a1, ← b1, ← a2, sgn_same _ _ (by rw [a2, b2, h]), add_eq]
theorem rplus_ge (q r : Rat) (h : decide (q.num < 0) ≠ decide (r.num < 0)) (hle : r.num.natAbs * q.den ≤ q.num.natAbs * r.den) : mkRat (sgnZ (decide (q.num < 0)) (q.num.natAbs * r.den - r.num.natAbs * q.den)) (q.den * r.den) = q + r := by
  obtain ⟨a1, a2⟩ := mul_den q r.den r.den_pos
  obtain ⟨b1, b2⟩ := mul_den r q.den q.den_pos
  rw [← a1, ← b1] at hle
  rw [← a1, ← b1, ← a2, sgn_less _ _ (by rw [a2, b2]; exact h) hle, add_eq]
theorem rplus_lt (q r : Rat) (h : decide (q.num < 0) ≠ decide (r.num < 0)) (hle : q.num.natAbs * r.den ≤ r.num.natAbs * q.den) : mkRat (sgnZ (decide (r.num < 0)) (r.num.natAbs * q.den - q.num.natAbs * r.den)) (q.den * r.den) = q + r := by
  rw [Nat.mul_comm q.den, Rat.add_comm]
  exact rplus_ge r q (Ne.symm h) hle
set_option maxRecDepth 100000 in
set_option maxHeartbeats 8000000 in
theorem RPLUS_any (neg neg' : Bool) (A A' D D' : Option Addr) (n c m d n' c' m' d' : Nat) (q r : Rat) (hn : n ≤ 10000000) (hm : m ≤ 10000000) (hn' : n' ≤ 10000000) (hm' : m' ≤ 10000000) (w : World) (B : Nat) (hB : B ≤ w.heap.size) (hh : Hid (NumR w B neg A n c D m d q)) (hh' : Hid (NumR w B neg' A' n' c' D' m' d' r)) :
    Calls Tryz.prog 58 #[.agg #[.bool neg, .slice A n c, .slice D m d], .agg #[.bool neg', .slice A' n' c', .slice D' m' d']] w (OutR w (q + r) (max (n + m') (n' + m) + 1) (m + m')) := by
  obtain ⟨W, gx, hW, hgx, HHW, HBX, HSW⟩ := boxes3 w (.cells #[.bool neg, .slice A n c, .slice D m d] 55) (.cells #[.bool neg', .slice A' n' c', .slice D' m' d'] 55) (.cells #[.bool false, .slice none 0 0, .slice none 0 0] 55)
  have HGX := Lib.hid hgx
  obtain ⟨x0, x1, x2, _, _, _⟩ := three_cells HHW.out.1
  obtain ⟨y0, y1, y2, _, _, _⟩ := three_cells HHW.out.2.1
  have HHR := Lib.hid HHW.out.2.2
  have hgw := blk_lt HHW.out.2.2
  have HRW := Lib.hid (hh.out.to HBX.out hB (by have := HSW.out; omega))
  have HRW' := Lib.hid (hh'.out.to HBX.out hB (by have := HSW.out; omega))
  have HBX0 := Lib.hid (HBX.out.size)
  have HZ : Hid (0 < q.den * r.den) := Nat.mul_pos q.den_pos r.den_pos
  have HN1 := Lib.hid hh.out.1
  have HN2 := Lib.hid hh'.out.1
  clear hh hh'
  go_enter Tryz.func58, Tryz.ntmps58
  go_upto_region 1 with (fail)
  rw [← hW, ← hgx]
  clear hW hgx
  obtain ⟨W, rfl⟩ : ∃ Wx : World, Wx = W := ⟨_, rfl⟩
  refine wp_region_text 18 (fun x => x.cell? ⟨gx, 0, none⟩ = some (.bool neg) ∧ x.cell? ⟨gx, 1, none⟩ = some (.slice A n c) ∧ x.cell? ⟨gx, 2, none⟩ = some (.slice D m d) ∧ x.cell? ⟨gx + 1, 0, none⟩ = some (.bool neg') ∧ x.cell? ⟨gx + 1, 1, none⟩ = some (.slice A' n' c') ∧ x.cell? ⟨gx + 1, 2, none⟩ = some (.slice D' m' d')) (by kernel_rfl) (by kernel_rfl) ?_
  have hS : W.drew.cell? ⟨gx, 0, none⟩ = some (.bool neg) ∧ W.drew.cell? ⟨gx, 1, none⟩ = some (.slice A n c) ∧ W.drew.cell? ⟨gx, 2, none⟩ = some (.slice D m d) ∧ W.drew.cell? ⟨gx + 1, 0, none⟩ = some (.bool neg') ∧ W.drew.cell? ⟨gx + 1, 1, none⟩ = some (.slice A' n' c') ∧ W.drew.cell? ⟨gx + 1, 2, none⟩ = some (.slice D' m' d') := ⟨x0, x1, x2, y0, y1, y2⟩
  have hS0 := And.intro x0 (And.intro x1 (And.intro x2 (And.intro y0 (And.intro y1 y2))))
  refine HT.take (i := 0) (oi := _) (v := ?_) rfl (by kernel_rfl) (by kernel_rfl) (by decide) (fun _ _ _ h => h) (Or.inl ⟨by rfl, ?_⟩) hS ?_
  rotate_left
  · intro wz
    go_simp
    try with_reducible rfl
  simp only [List.getElem_toArray, List.getElem_cons_succ, List.getElem_cons_zero, Act.put, List.setIfInBounds_toArray, List.set_cons_zero, List.set_cons_succ]
  refine HT.load (i := 1) (oi := _) (v := ?_) rfl (by kernel_rfl) (by kernel_rfl) (by decide) (fun _ _ _ h => h) (by kernel_rfl) (Or.inl ⟨by rfl, ?_⟩) hS ?_
  rotate_left
  · intro wz hwz
    try dsimp only at hwz
    go_simp
    try with_reducible rfl
  simp only [List.getElem_toArray, List.getElem_cons_succ, List.getElem_cons_zero, Act.put, List.setIfInBounds_toArray, List.set_cons_zero, List.set_cons_succ]
  refine HT.take (i := 2) (oi := _) (v := ?_) rfl (by kernel_rfl) (by kernel_rfl) (by decide) (fun _ _ _ h => h) (Or.inl ⟨by rfl, ?_⟩) hS ?_
  rotate_left
  · intro wz
    go_simp
    try with_reducible rfl
  simp only [List.getElem_toArray, List.getElem_cons_succ, List.getElem_cons_zero, Act.put, List.setIfInBounds_toArray, List.set_cons_zero, List.set_cons_succ]
  refine HT.load (i := 3) (oi := _) (v := ?_) rfl (by kernel_rfl) (by kernel_rfl) (by decide) (fun _ _ _ h => h) (by kernel_rfl) (Or.inl ⟨by rfl, ?_⟩) hS ?_
  rotate_left
  · intro wz hwz
    try dsimp only at hwz
    go_simp
    try with_reducible rfl
  simp only [List.getElem_toArray, List.getElem_cons_succ, List.getElem_cons_zero, Act.put, List.setIfInBounds_toArray, List.set_cons_zero, List.set_cons_succ]
  refine HT.take (i := 5) (oi := _) (v := ?_) rfl (by kernel_rfl) (by kernel_rfl) (by decide) (fun _ _ _ h => h) (Or.inl ⟨by rfl, ?_⟩) hS ?_
  rotate_left
  · intro wz
    go_simp
    try with_reducible rfl
  simp only [List.getElem_toArray, List.getElem_cons_succ, List.getElem_cons_zero, Act.put, List.setIfInBounds_toArray, List.set_cons_zero, List.set_cons_succ]
  refine HT.load (i := 6) (oi := _) (v := ?_) rfl (by kernel_rfl) (by kernel_rfl) (by decide) (fun _ _ _ h => h) (by kernel_rfl) (Or.inl ⟨by rfl, ?_⟩) hS ?_
  rotate_left
  · intro wz hwz
    try dsimp only at hwz
    go_simp
    try with_reducible rfl
  simp only [List.getElem_toArray, List.getElem_cons_succ, List.getElem_cons_zero, Act.put, List.setIfInBounds_toArray, List.set_cons_zero, List.set_cons_succ]
  refine HT.take (i := 7) (oi := _) (v := ?_) rfl (by kernel_rfl) (by kernel_rfl) (by decide) (fun _ _ _ h => h) (Or.inl ⟨by rfl, ?_⟩) hS ?_
  rotate_left
  · intro wz
    go_simp
    try with_reducible rfl
  simp only [List.getElem_toArray, List.getElem_cons_succ, List.getElem_cons_zero, Act.put, List.setIfInBounds_toArray, List.set_cons_zero, List.set_cons_succ]
  refine HT.load (i := 8) (oi := _) (v := ?_) rfl (by kernel_rfl) (by kernel_rfl) (by decide) (fun _ _ _ h => h) (by kernel_rfl) (Or.inl ⟨by rfl, ?_⟩) hS ?_
  rotate_left
  · intro wz hwz
    try dsimp only at hwz
    go_simp
    try with_reducible rfl
  simp only [List.getElem_toArray, List.getElem_cons_succ, List.getElem_cons_zero, Act.put, List.setIfInBounds_toArray, List.set_cons_zero, List.set_cons_succ]
  refine HT.take (i := 10) (oi := _) (v := ?_) rfl (by kernel_rfl) (by kernel_rfl) (by decide) (fun _ _ _ h => h) (Or.inl ⟨by rfl, ?_⟩) hS ?_
  rotate_left
  · intro wz
    go_simp
    try with_reducible rfl
  simp only [List.getElem_toArray, List.getElem_cons_succ, List.getElem_cons_zero, Act.put, List.setIfInBounds_toArray, List.set_cons_zero, List.set_cons_succ]
  refine HT.load (i := 11) (oi := _) (v := ?_) rfl (by kernel_rfl) (by kernel_rfl) (by decide) (fun _ _ _ h => h) (by kernel_rfl) (Or.inl ⟨by rfl, ?_⟩) hS ?_
  rotate_left
  · intro wz hwz
    try dsimp only at hwz
    go_simp
    try with_reducible rfl
  simp only [List.getElem_toArray, List.getElem_cons_succ, List.getElem_cons_zero, Act.put, List.setIfInBounds_toArray, List.set_cons_zero, List.set_cons_succ]
  refine HT.take (i := 12) (oi := _) (v := ?_) rfl (by kernel_rfl) (by kernel_rfl) (by decide) (fun _ _ _ h => h) (Or.inl ⟨by rfl, ?_⟩) hS ?_
  rotate_left
  · intro wz
    go_simp
    try with_reducible rfl
  simp only [List.getElem_toArray, List.getElem_cons_succ, List.getElem_cons_zero, Act.put, List.setIfInBounds_toArray, List.set_cons_zero, List.set_cons_succ]
  refine HT.load (i := 13) (oi := _) (v := ?_) rfl (by kernel_rfl) (by kernel_rfl) (by decide) (fun _ _ _ h => h) (by kernel_rfl) (Or.inl ⟨by rfl, ?_⟩) hS ?_
  rotate_left
  · intro wz hwz
    try dsimp only at hwz
    go_simp
    try with_reducible rfl
  simp only [List.getElem_toArray, List.getElem_cons_succ, List.getElem_cons_zero, Act.put, List.setIfInBounds_toArray, List.set_cons_zero, List.set_cons_succ]
  refine HT.one (i := 4) (o := _) rfl (by kernel_rfl) (by decide) (by rfl) ?_
  intro K hK
  go_simp
  refine (RTIMES_any A D' n c _ m' d' _ (by omega) (by omega) _ W.heap.size (by exact Nat.le_refl _) (by exact Lib.hid HRW.out.2.1) (by exact Lib.hid HRW'.out.2.2)).mono ?_
  rintro e w1 ⟨A4, n4, c4, rfl, h1, k1, hb1⟩
  replace hb1 : Below W.heap.size W w1 := below_undrew hb1
  have H1 := Lib.hid h1
  have HB1 := Lib.hid hb1
  clear h1 hb1
  refine hK.out _ _ (six_keep hS0 HB1.out (by omega) (by omega)) ?_
  clear hK K hS
  have hS := six_keep hS0 HB1.out (by omega) (by omega)
  try simp only [List.getElem_toArray, List.getElem_cons_succ, List.getElem_cons_zero, Act.put, List.setIfInBounds_toArray, List.set_cons_zero, List.set_cons_succ]
  refine HT.one (i := 9) (o := _) rfl (by kernel_rfl) (by decide) (by rfl) ?_
  intro K hK
  go_simp
  refine (RTIMES_any A' D n' c' _ m d _ (by omega) (by omega) _ W.heap.size (by exact HB1.out.size) (by exact Lib.hid (HRW'.out.2.1.below HB1.out (Nat.le_refl _))) (by exact Lib.hid (HRW.out.2.2.below HB1.out (Nat.le_refl _)))).mono ?_
  rintro e w2 ⟨A5, n5, c5, rfl, h2, k2, hb2⟩
  have H2 := Lib.hid h2
  have HB2 := Lib.hid (HB1.out.trans (hb2.mono HB1.out.size))
  have HL2 := Lib.hid hb2
  clear h2 hb2
  refine hK.out _ _ (six_keep hS0 HB2.out (by omega) (by omega)) ?_
  clear hK K hS
  have hS := six_keep hS0 HB2.out (by omega) (by omega)
  try simp only [List.getElem_toArray, List.getElem_cons_succ, List.getElem_cons_zero, Act.put, List.setIfInBounds_toArray, List.set_cons_zero, List.set_cons_succ]
  refine HT.one (i := 14) (o := _) rfl (by kernel_rfl) (by decide) (by rfl) ?_
  intro K hK
  go_simp
  refine (RTIMES_any D D' m d _ m' d' _ (by omega) (by omega) _ W.heap.size (by exact HB2.out.size) (by exact Lib.hid (HRW.out.2.2.below HB2.out (Nat.le_refl _))) (by exact Lib.hid (HRW'.out.2.2.below HB2.out (Nat.le_refl _)))).mono ?_
  rintro e w3 ⟨A6, n6, c6, rfl, h3, k3, hb3⟩
  have H3 := Lib.hid h3
  have HB3 := Lib.hid (HB2.out.trans (hb3.mono HB2.out.size))
  have HL3 := Lib.hid hb3
  clear h3 hb3
  refine hK.out _ _ (six_keep hS0 HB3.out (by omega) (by omega)) ?_
  clear hK K hS
  have hS := six_keep hS0 HB3.out (by omega) (by omega)
  try simp only [List.getElem_toArray, List.getElem_cons_succ, List.getElem_cons_zero, Act.put, List.setIfInBounds_toArray, List.set_cons_zero, List.set_cons_succ]
  refine HT.take (i := 15) (oi := _) (v := ?_) rfl (by kernel_rfl) (by kernel_rfl) (by decide) (fun _ _ _ h => h) (Or.inl ⟨by rfl, ?_⟩) hS ?_
  rotate_left
  · intro wz
    go_simp
    try with_reducible rfl
  simp only [List.getElem_toArray, List.getElem_cons_succ, List.getElem_cons_zero, Act.put, List.setIfInBounds_toArray, List.set_cons_zero, List.set_cons_succ]
  refine HT.take (i := 16) (oi := _) (v := ?_) rfl (by kernel_rfl) (by kernel_rfl) (by decide) (fun _ _ _ h => h) (Or.inl ⟨by rfl, ?_⟩) hS ?_
  rotate_left
  · intro wz
    go_simp
    try with_reducible rfl
  simp only [List.getElem_toArray, List.getElem_cons_succ, List.getElem_cons_zero, Act.put, List.setIfInBounds_toArray, List.set_cons_zero, List.set_cons_succ]
  refine HT.take (i := 17) (oi := _) (v := ?_) rfl (by kernel_rfl) (by kernel_rfl) (by decide) (fun _ _ _ h => h) (Or.inl ⟨by rfl, ?_⟩) hS ?_
  rotate_left
  · intro wz
    go_simp
    try with_reducible rfl
  simp only [List.getElem_toArray, List.getElem_cons_succ, List.getElem_cons_zero, Act.put, List.setIfInBounds_toArray, List.set_cons_zero, List.set_cons_succ]
  obtain ⟨x0, x1, x2, y0, y1, y2⟩ := hS
  have hS := x0
  refine HT.done (by kernel_rfl) ?_
  clear hS
  simp only [List.drop_succ_cons, List.drop_zero]
  have H4 := Lib.hid (H1.out.to (HL2.out.trans (HL3.out.mono HL2.out.size)) (Nat.le_refl _) (Nat.le_trans HL2.out.size HL3.out.size))
  have H5 := Lib.hid (H2.out.to HL3.out (Nat.le_refl _) HL3.out.size)
  have H6 := H3
  have HHR := Lib.hid ((HB3.out.block (gx + 1 + 1) hgw).trans HHR.out)
  have hgw := Nat.lt_of_lt_of_le hgw HB3.out.size
  have HBX := Lib.hid (HBX.out.trans (HB3.out.mono HBX0.out))
  have HBX0 := Lib.hid HBX.out.size
  clear H1 H2 H3 HB1 HB2 HB3 HL2 HL3 hS0 HHW HSW HRW HRW'
  obtain ⟨W, rfl⟩ : ∃ Wx : World, Wx = w3 := ⟨_, rfl⟩
  by_cases hs : neg = neg'
  · have HQ := Lib.hid (rplus_same q r (by rw [← HN1.out, ← HN2.out]; exact hs))
    rw [← HN1.out] at HQ
    have hnn : (neg == neg') = true := by simpa using hs
    clear hs
    go_upto_region 3 with (fail)
    obtain ⟨W, rfl⟩ : ∃ Wx : World, Wx = W := ⟨_, rfl⟩
    refine wp_region_text 7 (fun x => x.cell? ⟨gx, 0, none⟩ = some (.bool neg) ∧ x.cell? ⟨gx, 1, none⟩ = some (.slice A n c) ∧ x.cell? ⟨gx, 2, none⟩ = some (.slice D m d) ∧ x.cell? ⟨gx + 1, 0, none⟩ = some (.bool neg') ∧ x.cell? ⟨gx + 1, 1, none⟩ = some (.slice A' n' c') ∧ x.cell? ⟨gx + 1, 2, none⟩ = some (.slice D' m' d')) (by kernel_rfl) (by kernel_rfl) ?_
    have hS : W.drew.cell? ⟨gx, 0, none⟩ = some (.bool neg) ∧ W.drew.cell? ⟨gx, 1, none⟩ = some (.slice A n c) ∧ W.drew.cell? ⟨gx, 2, none⟩ = some (.slice D m d) ∧ W.drew.cell? ⟨gx + 1, 0, none⟩ = some (.bool neg') ∧ W.drew.cell? ⟨gx + 1, 1, none⟩ = some (.slice A' n' c') ∧ W.drew.cell? ⟨gx + 1, 2, none⟩ = some (.slice D' m' d') := ⟨x0, x1, x2, y0, y1, y2⟩
    have hS0 := And.intro x0 (And.intro x1 (And.intro x2 (And.intro y0 (And.intro y1 y2))))
    refine HT.take (i := 0) (oi := _) (v := ?_) rfl (by kernel_rfl) (by kernel_rfl) (by decide) (fun _ _ _ h => h) (Or.inl ⟨by rfl, ?_⟩) hS ?_
    rotate_left
    · intro wz
      go_simp
      try with_reducible rfl
    simp only [List.getElem_toArray, List.getElem_cons_succ, List.getElem_cons_zero, Act.put, List.setIfInBounds_toArray, List.set_cons_zero, List.set_cons_succ]
    refine HT.load (i := 1) (oi := _) (v := ?_) rfl (by kernel_rfl) (by kernel_rfl) (by decide) (fun _ _ _ h => h) (by kernel_rfl) (Or.inl ⟨by rfl, ?_⟩) hS ?_
    rotate_left
    · intro wz hwz
      try dsimp only at hwz
      go_simp
      try with_reducible rfl
    simp only [List.getElem_toArray, List.getElem_cons_succ, List.getElem_cons_zero, Act.put, List.setIfInBounds_toArray, List.set_cons_zero, List.set_cons_succ]
    refine HT.take (i := 2) (oi := _) (v := ?_) rfl (by kernel_rfl) (by kernel_rfl) (by decide) (fun _ _ _ h => h) (Or.inl ⟨by rfl, ?_⟩) hS ?_
    rotate_left
    · intro wz
      go_simp
      try with_reducible rfl
    simp only [List.getElem_toArray, List.getElem_cons_succ, List.getElem_cons_zero, Act.put, List.setIfInBounds_toArray, List.set_cons_zero, List.set_cons_succ]
    refine HT.take (i := 3) (oi := _) (v := ?_) rfl (by kernel_rfl) (by kernel_rfl) (by decide) (fun _ _ _ h => h) (Or.inl ⟨by rfl, ?_⟩) hS ?_
    rotate_left
    · intro wz
      go_simp
      try with_reducible rfl
    simp only [List.getElem_toArray, List.getElem_cons_succ, List.getElem_cons_zero, Act.put, List.setIfInBounds_toArray, List.set_cons_zero, List.set_cons_succ]
    refine HT.take (i := 5) (oi := _) (v := ?_) rfl (by kernel_rfl) (by kernel_rfl) (by decide) (fun _ _ _ h => h) (Or.inl ⟨by rfl, ?_⟩) hS ?_
    rotate_left
    · intro wz
      go_simp
      try with_reducible rfl
    simp only [List.getElem_toArray, List.getElem_cons_succ, List.getElem_cons_zero, Act.put, List.setIfInBounds_toArray, List.set_cons_zero, List.set_cons_succ]
    refine HT.one (i := 4) (o := _) rfl (by kernel_rfl) (by decide) (by rfl) ?_
    intro K hK
    go_simp
    refine (RADD_any A4 A5 n4 c4 _ n5 c5 _ (by omega) (by omega) _ W.heap.size (by exact Nat.le_refl _) (by exact H4) (by exact H5)).mono ?_
    rintro e w1 ⟨A1, n1, c1, rfl, h1, k1, hb1⟩
    replace hb1 : Below W.heap.size W w1 := below_undrew hb1
    have H1 := Lib.hid h1
    have HB1 := Lib.hid hb1
    clear h1 hb1
    refine hK.out _ _ (six_keep hS0 HB1.out (by omega) (by omega)) ?_
    clear hK K hS
    have hS := six_keep hS0 HB1.out (by omega) (by omega)
    try simp only [List.getElem_toArray, List.getElem_cons_succ, List.getElem_cons_zero, Act.put, List.setIfInBounds_toArray, List.set_cons_zero, List.set_cons_succ]
    refine HT.one (i := 6) (o := _) rfl (by kernel_rfl) (by decide) (by rfl) ?_
    intro K hK
    go_simp
    refine (RLOWEST_any neg A1 _ n1 c1 _ n6 c6 _ (by omega) (by omega) HZ.out _ w1.heap.size (Nat.le_refl _) H1 (Lib.hid (H6.out.to HB1.out (Nat.le_refl _) HB1.out.size))).mono ?_
    rintro e w2 ⟨ng3, A3, n3, c3, A7, n7, c7, rfl, h2, k3, k4, hb2⟩
    have H2 := Lib.hid h2
    have HB2 := Lib.hid (HB1.out.trans (hb2.mono HB1.out.size))
    have HL2 := Lib.hid hb2
    clear h2 hb2
    refine hK.out _ _ (six_keep hS0 HB2.out (by omega) (by omega)) ?_
    clear hK K hS
    have hS := six_keep hS0 HB2.out (by omega) (by omega)
    try simp only [List.getElem_toArray, List.getElem_cons_succ, List.getElem_cons_zero, Act.put, List.setIfInBounds_toArray, List.set_cons_zero, List.set_cons_succ]
    have hhx := (HB2.out.block (gx + 1 + 1) hgw).trans HHR.out
    obtain ⟨hr0, hr1, hr2, hf0, hf1, hf2⟩ := three_cells hhx
    have HHX := Lib.hid hhx
    clear hhx
    refine HT.done (by kernel_rfl) ?_
    clear hS
    simp only [List.drop_succ_cons, List.drop_zero]
    go_wp2_with fail
    rw [HQ.out] at H2
    exact end_rnum rfl rfl rfl hr0 hr1 hr2 (outR_set (q := q + r) H2.out.1 (by have := HGX.out; omega) ⟨_, _, HHX.out⟩ H2.out.2.1 H2.out.2.2 (HBX.out.trans (HB2.out.mono HBX0.out)) (by omega) (by omega))
  · have hnn : (neg == neg') = false := by simpa using hs
    have HDD : Hid (decide (q.num < 0) ≠ decide (r.num < 0)) := by rw [← HN1.out, ← HN2.out]; exact hs
    clear hs
    obtain ⟨kc, hkc⟩ : ∃ kc, cmpN (q.num.natAbs * r.den) (r.num.natAbs * q.den) = kc := ⟨_, rfl⟩
    have HKC := Lib.hid hkc
    clear hkc
    go_wp2_with fail
    refine (RCMP_any A4 A5 n4 c4 _ n5 c5 _ _ W.heap.size H4 H5).mono ?_
    rintro e w0 ⟨rfl, hb0⟩
    rw [HKC.out]
    obtain ⟨x0, x1, x2, y0, y1, y2⟩ := six_keep (And.intro x0 (And.intro x1 (And.intro x2 (And.intro y0 (And.intro y1 y2))))) hb0 (by omega) (by omega)
    have HHR := Lib.hid ((hb0.block (gx + 1 + 1) hgw).trans HHR.out)
    have hgw := Nat.lt_of_lt_of_le hgw hb0.size
    have H4 := Lib.hid (H4.out.to hb0 (Nat.le_refl _) hb0.size)
    have H5 := Lib.hid (H5.out.to hb0 (Nat.le_refl _) hb0.size)
    have H6 := Lib.hid (H6.out.to hb0 (Nat.le_refl _) hb0.size)
    have HBX := Lib.hid (HBX.out.trans (hb0.mono HBX0.out))
    have HBX0 := Lib.hid HBX.out.size
    clear hb0
    obtain ⟨W, rfl⟩ : ∃ Wx : World, Wx = w0 := ⟨_, rfl⟩
    by_cases hle : r.num.natAbs * q.den ≤ q.num.natAbs * r.den
    · have hk9 : 0 ≤ kc := by
        rw [← HKC.out]; unfold cmpN
        rw [if_neg (by omega)]; split <;> omega
      have HQ := Lib.hid (rplus_ge q r HDD.out hle)
      rw [← HN1.out] at HQ
      have HLE := Lib.hid hle
      clear hle
      go_upto_region 5 with (fail)
      obtain ⟨W, rfl⟩ : ∃ Wx : World, Wx = W := ⟨_, rfl⟩
      refine wp_region_text 7 (fun x => x.cell? ⟨gx, 0, none⟩ = some (.bool neg) ∧ x.cell? ⟨gx, 1, none⟩ = some (.slice A n c) ∧ x.cell? ⟨gx, 2, none⟩ = some (.slice D m d) ∧ x.cell? ⟨gx + 1, 0, none⟩ = some (.bool neg') ∧ x.cell? ⟨gx + 1, 1, none⟩ = some (.slice A' n' c') ∧ x.cell? ⟨gx + 1, 2, none⟩ = some (.slice D' m' d')) (by kernel_rfl) (by kernel_rfl) ?_
      have hS : W.drew.cell? ⟨gx, 0, none⟩ = some (.bool neg) ∧ W.drew.cell? ⟨gx, 1, none⟩ = some (.slice A n c) ∧ W.drew.cell? ⟨gx, 2, none⟩ = some (.slice D m d) ∧ W.drew.cell? ⟨gx + 1, 0, none⟩ = some (.bool neg') ∧ W.drew.cell? ⟨gx + 1, 1, none⟩ = some (.slice A' n' c') ∧ W.drew.cell? ⟨gx + 1, 2, none⟩ = some (.slice D' m' d') := ⟨x0, x1, x2, y0, y1, y2⟩
      have hS0 := And.intro x0 (And.intro x1 (And.intro x2 (And.intro y0 (And.intro y1 y2))))
      refine HT.take (i := 0) (oi := _) (v := ?_) rfl (by kernel_rfl) (by kernel_rfl) (by decide) (fun _ _ _ h => h) (Or.inl ⟨by rfl, ?_⟩) hS ?_
      rotate_left
      · intro wz
        go_simp
        try with_reducible rfl
      simp only [List.getElem_toArray, List.getElem_cons_succ, List.getElem_cons_zero, Act.put, List.setIfInBounds_toArray, List.set_cons_zero, List.set_cons_succ]
      refine HT.load (i := 1) (oi := _) (v := ?_) rfl (by kernel_rfl) (by kernel_rfl) (by decide) (fun _ _ _ h => h) (by kernel_rfl) (Or.inl ⟨by rfl, ?_⟩) hS ?_
      rotate_left
      · intro wz hwz
        try dsimp only at hwz
        go_simp
        try with_reducible rfl
      simp only [List.getElem_toArray, List.getElem_cons_succ, List.getElem_cons_zero, Act.put, List.setIfInBounds_toArray, List.set_cons_zero, List.set_cons_succ]
      refine HT.take (i := 2) (oi := _) (v := ?_) rfl (by kernel_rfl) (by kernel_rfl) (by decide) (fun _ _ _ h => h) (Or.inl ⟨by rfl, ?_⟩) hS ?_
      rotate_left
      · intro wz
        go_simp
        try with_reducible rfl
      simp only [List.getElem_toArray, List.getElem_cons_succ, List.getElem_cons_zero, Act.put, List.setIfInBounds_toArray, List.set_cons_zero, List.set_cons_succ]
      refine HT.take (i := 3) (oi := _) (v := ?_) rfl (by kernel_rfl) (by kernel_rfl) (by decide) (fun _ _ _ h => h) (Or.inl ⟨by rfl, ?_⟩) hS ?_
      rotate_left
      · intro wz
        go_simp
        try with_reducible rfl
      simp only [List.getElem_toArray, List.getElem_cons_succ, List.getElem_cons_zero, Act.put, List.setIfInBounds_toArray, List.set_cons_zero, List.set_cons_succ]
      refine HT.take (i := 5) (oi := _) (v := ?_) rfl (by kernel_rfl) (by kernel_rfl) (by decide) (fun _ _ _ h => h) (Or.inl ⟨by rfl, ?_⟩) hS ?_
      rotate_left
      · intro wz
        go_simp
        try with_reducible rfl
      simp only [List.getElem_toArray, List.getElem_cons_succ, List.getElem_cons_zero, Act.put, List.setIfInBounds_toArray, List.set_cons_zero, List.set_cons_succ]
      refine HT.one (i := 4) (o := _) rfl (by kernel_rfl) (by decide) (by rfl) ?_
      intro K hK
      go_simp
      refine (RLESS_any A4 A5 n4 c4 _ n5 c5 _ (by omega) HLE.out _ W.heap.size (by exact Nat.le_refl _) (by exact H4) (by exact H5)).mono ?_
      rintro e w1 ⟨A1, n1, c1, rfl, h1, k1, hb1⟩
      replace hb1 : Below W.heap.size W w1 := below_undrew hb1
      have H1 := Lib.hid h1
      have HB1 := Lib.hid hb1
      clear h1 hb1
      refine hK.out _ _ (six_keep hS0 HB1.out (by omega) (by omega)) ?_
      clear hK K hS
      have hS := six_keep hS0 HB1.out (by omega) (by omega)
      try simp only [List.getElem_toArray, List.getElem_cons_succ, List.getElem_cons_zero, Act.put, List.setIfInBounds_toArray, List.set_cons_zero, List.set_cons_succ]
      refine HT.one (i := 6) (o := _) rfl (by kernel_rfl) (by decide) (by rfl) ?_
      intro K hK
      go_simp
      refine (RLOWEST_any neg A1 _ n1 c1 _ n6 c6 _ (by omega) (by omega) HZ.out _ w1.heap.size (Nat.le_refl _) H1 (Lib.hid (H6.out.to HB1.out (Nat.le_refl _) HB1.out.size))).mono ?_
      rintro e w2 ⟨ng3, A3, n3, c3, A7, n7, c7, rfl, h2, k3, k4, hb2⟩
      have H2 := Lib.hid h2
      have HB2 := Lib.hid (HB1.out.trans (hb2.mono HB1.out.size))
      have HL2 := Lib.hid hb2
      clear h2 hb2
      refine hK.out _ _ (six_keep hS0 HB2.out (by omega) (by omega)) ?_
      clear hK K hS
      have hS := six_keep hS0 HB2.out (by omega) (by omega)
      try simp only [List.getElem_toArray, List.getElem_cons_succ, List.getElem_cons_zero, Act.put, List.setIfInBounds_toArray, List.set_cons_zero, List.set_cons_succ]
      have hhx := (HB2.out.block (gx + 1 + 1) hgw).trans HHR.out
      obtain ⟨hr0, hr1, hr2, hf0, hf1, hf2⟩ := three_cells hhx
      have HHX := Lib.hid hhx
      clear hhx
      refine HT.done (by kernel_rfl) ?_
      clear hS
      simp only [List.drop_succ_cons, List.drop_zero]
      go_wp2_with fail
      rw [HQ.out] at H2
      exact end_rnum rfl rfl rfl hr0 hr1 hr2 (outR_set (q := q + r) H2.out.1 (by have := HGX.out; omega) ⟨_, _, HHX.out⟩ H2.out.2.1 H2.out.2.2 (HBX.out.trans (HB2.out.mono HBX0.out)) (by omega) (by omega))
    · have hk9 : kc < 0 := by
        rw [← HKC.out]; unfold cmpN
        rw [if_pos (by omega)]; omega
      have HLE := Lib.hid (show q.num.natAbs * r.den ≤ r.num.natAbs * q.den by omega)
      have HQ := Lib.hid (rplus_lt q r HDD.out HLE.out)
      rw [← HN2.out] at HQ
      clear hle
      go_upto_region 6 with (fail)
      obtain ⟨W, rfl⟩ : ∃ Wx : World, Wx = W := ⟨_, rfl⟩
      refine wp_region_text 7 (fun x => x.cell? ⟨gx, 0, none⟩ = some (.bool neg) ∧ x.cell? ⟨gx, 1, none⟩ = some (.slice A n c) ∧ x.cell? ⟨gx, 2, none⟩ = some (.slice D m d) ∧ x.cell? ⟨gx + 1, 0, none⟩ = some (.bool neg') ∧ x.cell? ⟨gx + 1, 1, none⟩ = some (.slice A' n' c') ∧ x.cell? ⟨gx + 1, 2, none⟩ = some (.slice D' m' d')) (by kernel_rfl) (by kernel_rfl) ?_
      have hS : W.drew.cell? ⟨gx, 0, none⟩ = some (.bool neg) ∧ W.drew.cell? ⟨gx, 1, none⟩ = some (.slice A n c) ∧ W.drew.cell? ⟨gx, 2, none⟩ = some (.slice D m d) ∧ W.drew.cell? ⟨gx + 1, 0, none⟩ = some (.bool neg') ∧ W.drew.cell? ⟨gx + 1, 1, none⟩ = some (.slice A' n' c') ∧ W.drew.cell? ⟨gx + 1, 2, none⟩ = some (.slice D' m' d') := ⟨x0, x1, x2, y0, y1, y2⟩
      have hS0 := And.intro x0 (And.intro x1 (And.intro x2 (And.intro y0 (And.intro y1 y2))))
      refine HT.take (i := 0) (oi := _) (v := ?_) rfl (by kernel_rfl) (by kernel_rfl) (by decide) (fun _ _ _ h => h) (Or.inl ⟨by rfl, ?_⟩) hS ?_
      rotate_left
      · intro wz
        go_simp
        try with_reducible rfl
      simp only [List.getElem_toArray, List.getElem_cons_succ, List.getElem_cons_zero, Act.put, List.setIfInBounds_toArray, List.set_cons_zero, List.set_cons_succ]
      refine HT.load (i := 1) (oi := _) (v := ?_) rfl (by kernel_rfl) (by kernel_rfl) (by decide) (fun _ _ _ h => h) (by kernel_rfl) (Or.inl ⟨by rfl, ?_⟩) hS ?_
      rotate_left
      · intro wz hwz
        try dsimp only at hwz
        go_simp
        try with_reducible rfl
      simp only [List.getElem_toArray, List.getElem_cons_succ, List.getElem_cons_zero, Act.put, List.setIfInBounds_toArray, List.set_cons_zero, List.set_cons_succ]
      refine HT.take (i := 2) (oi := _) (v := ?_) rfl (by kernel_rfl) (by kernel_rfl) (by decide) (fun _ _ _ h => h) (Or.inl ⟨by rfl, ?_⟩) hS ?_
      rotate_left
      · intro wz
        go_simp
        try with_reducible rfl
      simp only [List.getElem_toArray, List.getElem_cons_succ, List.getElem_cons_zero, Act.put, List.setIfInBounds_toArray, List.set_cons_zero, List.set_cons_succ]
      refine HT.take (i := 3) (oi := _) (v := ?_) rfl (by kernel_rfl) (by kernel_rfl) (by decide) (fun _ _ _ h => h) (Or.inl ⟨by rfl, ?_⟩) hS ?_
      rotate_left
      · intro wz
        go_simp
        try with_reducible rfl
      simp only [List.getElem_toArray, List.getElem_cons_succ, List.getElem_cons_zero, Act.put, List.setIfInBounds_toArray, List.set_cons_zero, List.set_cons_succ]
      refine HT.take (i := 5) (oi := _) (v := ?_) rfl (by kernel_rfl) (by kernel_rfl) (by decide) (fun _ _ _ h => h) (Or.inl ⟨by rfl, ?_⟩) hS ?_
      rotate_left
      · intro wz
        go_simp
        try with_reducible rfl
      simp only [List.getElem_toArray, List.getElem_cons_succ, List.getElem_cons_zero, Act.put, List.setIfInBounds_toArray, List.set_cons_zero, List.set_cons_succ]
      refine HT.one (i := 4) (o := _) rfl (by kernel_rfl) (by decide) (by rfl) ?_
      intro K hK
      go_simp
      refine (RLESS_any A5 A4 n5 c5 _ n4 c4 _ (by omega) HLE.out _ W.heap.size (by exact Nat.le_refl _) (by exact H5) (by exact H4)).mono ?_
      rintro e w1 ⟨A1, n1, c1, rfl, h1, k1, hb1⟩
      replace hb1 : Below W.heap.size W w1 := below_undrew hb1
      have H1 := Lib.hid h1
      have HB1 := Lib.hid hb1
      clear h1 hb1
      refine hK.out _ _ (six_keep hS0 HB1.out (by omega) (by omega)) ?_
      clear hK K hS
      have hS := six_keep hS0 HB1.out (by omega) (by omega)
      try simp only [List.getElem_toArray, List.getElem_cons_succ, List.getElem_cons_zero, Act.put, List.setIfInBounds_toArray, List.set_cons_zero, List.set_cons_succ]
      refine HT.one (i := 6) (o := _) rfl (by kernel_rfl) (by decide) (by rfl) ?_
      intro K hK
      go_simp
      refine (RLOWEST_any neg' A1 _ n1 c1 _ n6 c6 _ (by omega) (by omega) HZ.out _ w1.heap.size (Nat.le_refl _) H1 (Lib.hid (H6.out.to HB1.out (Nat.le_refl _) HB1.out.size))).mono ?_
      rintro e w2 ⟨ng3, A3, n3, c3, A7, n7, c7, rfl, h2, k3, k4, hb2⟩
      have H2 := Lib.hid h2
      have HB2 := Lib.hid (HB1.out.trans (hb2.mono HB1.out.size))
      have HL2 := Lib.hid hb2
      clear h2 hb2
      refine hK.out _ _ (six_keep hS0 HB2.out (by omega) (by omega)) ?_
      clear hK K hS
      have hS := six_keep hS0 HB2.out (by omega) (by omega)
      try simp only [List.getElem_toArray, List.getElem_cons_succ, List.getElem_cons_zero, Act.put, List.setIfInBounds_toArray, List.set_cons_zero, List.set_cons_succ]
      have hhx := (HB2.out.block (gx + 1 + 1) hgw).trans HHR.out
      obtain ⟨hr0, hr1, hr2, hf0, hf1, hf2⟩ := three_cells hhx
      have HHX := Lib.hid hhx
      clear hhx
      refine HT.done (by kernel_rfl) ?_
      clear hS
      simp only [List.drop_succ_cons, List.drop_zero]
      go_wp2_with fail
      rw [HQ.out] at H2
      exact end_rnum rfl rfl rfl hr0 hr1 hr2 (outR_set (q := q + r) H2.out.1 (by have := HGX.out; omega) ⟨_, _, HHX.out⟩ H2.out.2.1 H2.out.2.2 (HBX.out.trans (HB2.out.mono HBX0.out)) (by omega) (by omega))
end Go.Proofs.YtcjdmffflepplaaGreatDoor
