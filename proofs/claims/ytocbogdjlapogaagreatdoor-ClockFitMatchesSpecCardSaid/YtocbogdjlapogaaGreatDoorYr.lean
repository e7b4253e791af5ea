/- The document's numbers: Over, Times. -/
import Derived.Test.YtocbogdjlapogaaGreatDoorYo
import Derived.Test.YtocbogdjlapogaaGreatDoorNqd
import Derived.Test.YtocbogdjlapogaaGreatDoorYn
import Derived.Test.YtocbogdjlapogaaGreatDoorYa
set_option linter.unusedSimpArgs false
set_option linter.unusedVariables false
namespace Go.Proofs.YtocbogdjlapogaaGreatDoor
open Go.RowKit Go.Dw
theorem sgn_mul (a b : Int) : sgnZ (decide (a < 0) != decide (b < 0)) (a.natAbs * b.natAbs) = a * b := by
  unfold sgnZ
  rw [← Int.natAbs_mul]
  rcases Int.lt_trichotomy a 0 with h | h | h
  · rcases Int.lt_trichotomy b 0 with k | k | k
    · have := Int.mul_pos_of_neg_of_neg h k
      rw [decide_eq_true h, decide_eq_true k]
      simp; omega
    · subst k; simp
    · have := Int.mul_neg_of_neg_of_pos h k
      rw [decide_eq_true h, decide_eq_false (show ¬ b < 0 by omega)]
      simp; omega
  · subst h; simp
  · rcases Int.lt_trichotomy b 0 with k | k | k
    · have := Int.mul_neg_of_pos_of_neg h k
      rw [decide_eq_false (show ¬ a < 0 by omega), decide_eq_true k]
      simp; omega
    · subst k; simp
    · have := Int.mul_pos h k
      rw [decide_eq_false (show ¬ a < 0 by omega), decide_eq_false (show ¬ b < 0 by omega)]
      simp; omega
theorem sden_sgn (r : Rat) : decide (sden r < 0) = decide (r.num < 0) ∧ (sden r).natAbs = r.den := by
  unfold sden
  have := r.den_pos
  by_cases h : r.num < 0
  · rw [if_pos h, decide_eq_true h]
    exact ⟨decide_eq_true (by omega), by simp⟩
  · rw [if_neg h, decide_eq_false h]
    exact ⟨decide_eq_false (by omega), by simp⟩
theorem rover_eq (q r : Rat) (hr : r ≠ 0) : mkRat (sgnZ (decide (q.num < 0) != decide (r.num < 0)) (q.num.natAbs * r.den)) (q.den * r.num.natAbs) = q / r := by
  have h := sden_sgn r
  rw [div_eq q r hr, ← h.1]
  conv => lhs; rw [← h.2]
  rw [sgn_mul]
theorem rtimes_eq (q r : Rat) : mkRat (sgnZ (decide (q.num < 0) != decide (r.num < 0)) (q.num.natAbs * r.num.natAbs)) (q.den * r.den) = q * r := by
  rw [sgn_mul, Rat.mul_def, Rat.normalize_eq_mkRat]
set_option maxRecDepth 100000 in
set_option maxHeartbeats 4000000 in
theorem ROVER_any (neg neg' : Bool) (A A' D D' : Option Addr) (n c m d n' c' m' d' : Nat) (q r : Rat) (hn : n ≤ 10000000) (hm : m ≤ 10000000) (hn' : n' ≤ 10000000) (hm' : m' ≤ 10000000) (hr : r ≠ 0) (w : World) (B : Nat) (hB : B ≤ w.heap.size) (hh : Hid (NumR w B neg A n c D m d q)) (hh' : Hid (NumR w B neg' A' n' c' D' m' d' r)) :
    Calls Tryz.prog 21 #[.agg #[.bool neg, .slice A n c, .slice D m d], .agg #[.bool neg', .slice A' n' c', .slice D' m' d']] w (OutR w (q / r) (n + m') (m + n')) := by
  obtain ⟨W, gx, hW, hgx, HHW, HBX, HSW⟩ := boxes3 w (.cells #[.bool neg, .slice A n c, .slice D m d] 50) (.cells #[.bool neg', .slice A' n' c', .slice D' m' d'] 50) (.cells #[.bool false, .slice none 0 0, .slice none 0 0] 50)
  have HGX := Lib.hid hgx
  obtain ⟨x0, x1, x2, _, _, _⟩ := three_cells HHW.out.1
  obtain ⟨y0, y1, y2, _, _, _⟩ := three_cells HHW.out.2.1
  have HHR := Lib.hid HHW.out.2.2
  have hgw := blk_lt HHW.out.2.2
  have HRW := Lib.hid (hh.out.to HBX.out hB (by have := HSW.out; omega))
  have HRW' := Lib.hid (hh'.out.to HBX.out hB (by have := HSW.out; omega))
  have HBX0 := Lib.hid (HBX.out.size)
  have HQ := Lib.hid (rover_eq q r hr)
  have HZ : Hid (0 < q.den * r.num.natAbs) := Nat.mul_pos q.den_pos (by
    have : r.num ≠ 0 := fun h => hr (Rat.num_eq_zero.1 h)
    omega)
  have HNE : Hid ((!(neg == neg')) = (decide (q.num < 0) != decide (r.num < 0))) := by show _ = _; rw [hh.out.1, hh'.out.1]; rfl
  obtain ⟨sg, hsg⟩ : ∃ sg, (decide (q.num < 0) != decide (r.num < 0)) = sg := ⟨_, rfl⟩
  rw [hsg] at HQ HNE
  clear hsg hr hh hh'
  go_enter Tryz.func21, Tryz.ntmps21
  go_upto_region 1 with (fail)
  rw [← hW, ← hgx]
  clear hW hgx
  obtain ⟨W, rfl⟩ : ∃ Wx : World, Wx = W := ⟨_, rfl⟩
  refine wp_region_text 16 (fun x => x.cell? ⟨gx, 0, none⟩ = some (.bool neg) ∧ x.cell? ⟨gx, 1, none⟩ = some (.slice A n c) ∧ x.cell? ⟨gx, 2, none⟩ = some (.slice D m d) ∧ x.cell? ⟨gx + 1, 0, none⟩ = some (.bool neg') ∧ x.cell? ⟨gx + 1, 1, none⟩ = some (.slice A' n' c') ∧ x.cell? ⟨gx + 1, 2, none⟩ = some (.slice D' m' d')) (by kernel_rfl) (by kernel_rfl) ?_
  have hS : W.drew.cell? ⟨gx, 0, none⟩ = some (.bool neg) ∧ W.drew.cell? ⟨gx, 1, none⟩ = some (.slice A n c) ∧ W.drew.cell? ⟨gx, 2, none⟩ = some (.slice D m d) ∧ W.drew.cell? ⟨gx + 1, 0, none⟩ = some (.bool neg') ∧ W.drew.cell? ⟨gx + 1, 1, none⟩ = some (.slice A' n' c') ∧ W.drew.cell? ⟨gx + 1, 2, none⟩ = some (.slice D' m' d') := ⟨x0, x1, x2, y0, y1, y2⟩
  have hS0 := And.intro x0 (And.intro x1 (And.intro x2 (And.intro y0 (And.intro y1 y2))))
  refine HT.take (i := 0) (oi := _) (v := ?_) rfl (by kernel_rfl) (by kernel_rfl) (by decide) (fun _ _ _ h => h) (Or.inl ⟨by rfl, ?_⟩) hS ?_
  rotate_left
  · intro wz
    go_simp
    try with_reducible rfl
  simp only [List.getElem_toArray, List.getElem_cons_succ, List.getElem_cons_zero, Act.put, List.setIfInBounds_toArray, List.set_cons_zero, List.set_cons_succ]
  refine HT.load (i := 1) (oi := _) (v := ?_) rfl (by kernel_rfl) (by kernel_rfl) (by decide) (fun _ _ _ h => h) (by kernel_rfl) (Or.inl ⟨by rfl, ?_⟩) hS ?_
  rotate_left
  · intro wz hwz
    try dsimp only at hwz
    go_simp
    try with_reducible rfl
  simp only [List.getElem_toArray, List.getElem_cons_succ, List.getElem_cons_zero, Act.put, List.setIfInBounds_toArray, List.set_cons_zero, List.set_cons_succ]
  refine HT.take (i := 2) (oi := _) (v := ?_) rfl (by kernel_rfl) (by kernel_rfl) (by decide) (fun _ _ _ h => h) (Or.inl ⟨by rfl, ?_⟩) hS ?_
  rotate_left
  · intro wz
    go_simp
    try with_reducible rfl
  simp only [List.getElem_toArray, List.getElem_cons_succ, List.getElem_cons_zero, Act.put, List.setIfInBounds_toArray, List.set_cons_zero, List.set_cons_succ]
  refine HT.load (i := 3) (oi := _) (v := ?_) rfl (by kernel_rfl) (by kernel_rfl) (by decide) (fun _ _ _ h => h) (by kernel_rfl) (Or.inl ⟨by rfl, ?_⟩) hS ?_
  rotate_left
  · intro wz hwz
    try dsimp only at hwz
    go_simp
    try with_reducible rfl
  simp only [List.getElem_toArray, List.getElem_cons_succ, List.getElem_cons_zero, Act.put, List.setIfInBounds_toArray, List.set_cons_zero, List.set_cons_succ]
  refine HT.take (i := 4) (oi := _) (v := ?_) rfl (by kernel_rfl) (by kernel_rfl) (by decide) (fun _ _ _ h => h) (Or.inl ⟨by rfl, ?_⟩) hS ?_
  rotate_left
  · intro wz
    go_simp
    try with_reducible rfl
  simp only [List.getElem_toArray, List.getElem_cons_succ, List.getElem_cons_zero, Act.put, List.setIfInBounds_toArray, List.set_cons_zero, List.set_cons_succ]
  refine HT.take (i := 5) (oi := _) (v := ?_) rfl (by kernel_rfl) (by kernel_rfl) (by decide) (fun _ _ _ h => h) (Or.inl ⟨by rfl, ?_⟩) hS ?_
  rotate_left
  · intro wz
    go_simp
    try with_reducible rfl
  simp only [List.getElem_toArray, List.getElem_cons_succ, List.getElem_cons_zero, Act.put, List.setIfInBounds_toArray, List.set_cons_zero, List.set_cons_succ]
  refine HT.load (i := 6) (oi := _) (v := ?_) rfl (by kernel_rfl) (by kernel_rfl) (by decide) (fun _ _ _ h => h) (by kernel_rfl) (Or.inl ⟨by rfl, ?_⟩) hS ?_
  rotate_left
  · intro wz hwz
    try dsimp only at hwz
    go_simp
    try with_reducible rfl
  simp only [List.getElem_toArray, List.getElem_cons_succ, List.getElem_cons_zero, Act.put, List.setIfInBounds_toArray, List.set_cons_zero, List.set_cons_succ]
  refine HT.take (i := 7) (oi := _) (v := ?_) rfl (by kernel_rfl) (by kernel_rfl) (by decide) (fun _ _ _ h => h) (Or.inl ⟨by rfl, ?_⟩) hS ?_
  rotate_left
  · intro wz
    go_simp
    try with_reducible rfl
  simp only [List.getElem_toArray, List.getElem_cons_succ, List.getElem_cons_zero, Act.put, List.setIfInBounds_toArray, List.set_cons_zero, List.set_cons_succ]
  refine HT.load (i := 8) (oi := _) (v := ?_) rfl (by kernel_rfl) (by kernel_rfl) (by decide) (fun _ _ _ h => h) (by kernel_rfl) (Or.inl ⟨by rfl, ?_⟩) hS ?_
  rotate_left
  · intro wz hwz
    try dsimp only at hwz
    go_simp
    try with_reducible rfl
  simp only [List.getElem_toArray, List.getElem_cons_succ, List.getElem_cons_zero, Act.put, List.setIfInBounds_toArray, List.set_cons_zero, List.set_cons_succ]
  refine HT.take (i := 10) (oi := _) (v := ?_) rfl (by kernel_rfl) (by kernel_rfl) (by decide) (fun _ _ _ h => h) (Or.inl ⟨by rfl, ?_⟩) hS ?_
  rotate_left
  · intro wz
    go_simp
    try with_reducible rfl
  simp only [List.getElem_toArray, List.getElem_cons_succ, List.getElem_cons_zero, Act.put, List.setIfInBounds_toArray, List.set_cons_zero, List.set_cons_succ]
  refine HT.load (i := 11) (oi := _) (v := ?_) rfl (by kernel_rfl) (by kernel_rfl) (by decide) (fun _ _ _ h => h) (by kernel_rfl) (Or.inl ⟨by rfl, ?_⟩) hS ?_
  rotate_left
  · intro wz hwz
    try dsimp only at hwz
    go_simp
    try with_reducible rfl
  simp only [List.getElem_toArray, List.getElem_cons_succ, List.getElem_cons_zero, Act.put, List.setIfInBounds_toArray, List.set_cons_zero, List.set_cons_succ]
  refine HT.take (i := 12) (oi := _) (v := ?_) rfl (by kernel_rfl) (by kernel_rfl) (by decide) (fun _ _ _ h => h) (Or.inl ⟨by rfl, ?_⟩) hS ?_
  rotate_left
  · intro wz
    go_simp
    try with_reducible rfl
  simp only [List.getElem_toArray, List.getElem_cons_succ, List.getElem_cons_zero, Act.put, List.setIfInBounds_toArray, List.set_cons_zero, List.set_cons_succ]
  refine HT.load (i := 13) (oi := _) (v := ?_) rfl (by kernel_rfl) (by kernel_rfl) (by decide) (fun _ _ _ h => h) (by kernel_rfl) (Or.inl ⟨by rfl, ?_⟩) hS ?_
  rotate_left
  · intro wz hwz
    try dsimp only at hwz
    go_simp
    try with_reducible rfl
  simp only [List.getElem_toArray, List.getElem_cons_succ, List.getElem_cons_zero, Act.put, List.setIfInBounds_toArray, List.set_cons_zero, List.set_cons_succ]
  refine HT.one (i := 9) (o := _) rfl (by kernel_rfl) (by decide) (by rfl) ?_
  intro K hK
  go_simp
  refine (RTIMES_any A D' n c _ m' d' _ (by omega) (by omega) _ W.heap.size (by exact Nat.le_refl _) (by exact Lib.hid HRW.out.2.1) (by exact Lib.hid HRW'.out.2.2)).mono ?_
  rintro e w1 ⟨A1, n1, c1, rfl, h1, k1, hb1⟩
  replace hb1 : Below W.heap.size W w1 := below_undrew hb1
  have H1 := Lib.hid h1
  have HB1 := Lib.hid hb1
  clear h1 hb1
  refine hK.out _ _ (six_keep hS0 HB1.out (by omega) (by omega)) ?_
  clear hK K hS
  have hS := six_keep hS0 HB1.out (by omega) (by omega)
  try simp only [List.getElem_toArray, List.getElem_cons_succ, List.getElem_cons_zero, Act.put, List.setIfInBounds_toArray, List.set_cons_zero, List.set_cons_succ]
  refine HT.one (i := 14) (o := _) rfl (by kernel_rfl) (by decide) (by rfl) ?_
  intro K hK
  go_simp
  refine (RTIMES_any D A' m d _ n' c' _ (by omega) (by omega) _ W.heap.size (by exact HB1.out.size) (by exact Lib.hid (HRW.out.2.2.below HB1.out (Nat.le_refl _))) (by exact Lib.hid (HRW'.out.2.1.below HB1.out (Nat.le_refl _)))).mono ?_
  rintro e w2 ⟨A2, n2, c2, rfl, h2, k2, hb2⟩
  have H2 := Lib.hid h2
  have HB2 := Lib.hid (HB1.out.trans (hb2.mono HB1.out.size))
  have HL2 := Lib.hid hb2
  clear h2 hb2
  refine hK.out _ _ (six_keep hS0 HB2.out (by omega) (by omega)) ?_
  clear hK K hS
  have hS := six_keep hS0 HB2.out (by omega) (by omega)
  try simp only [List.getElem_toArray, List.getElem_cons_succ, List.getElem_cons_zero, Act.put, List.setIfInBounds_toArray, List.set_cons_zero, List.set_cons_succ]
  rw [HNE.out]
  refine HT.one (i := 15) (o := _) rfl (by kernel_rfl) (by decide) (by rfl) ?_
  intro K hK
  go_simp
  refine (RLOWEST_any sg A1 A2 n1 c1 _ n2 c2 _ (by omega) (by omega) HZ.out _ w2.heap.size (Nat.le_refl _) (Lib.hid (H1.out.to HL2.out (Nat.le_refl _) HL2.out.size)) H2).mono ?_
  rintro e w3 ⟨ng3, A3, n3, c3, A4, n4, c4, rfl, h3, k3, k4, hb3⟩
  have H3 := Lib.hid h3
  have HB3 := Lib.hid (HB2.out.trans (hb3.mono HB2.out.size))
  have HL3 := Lib.hid hb3
  clear h3 hb3
  refine hK.out _ _ (six_keep hS0 HB3.out (by omega) (by omega)) ?_
  clear hK K hS
  have hS := six_keep hS0 HB3.out (by omega) (by omega)
  try simp only [List.getElem_toArray, List.getElem_cons_succ, List.getElem_cons_zero, Act.put, List.setIfInBounds_toArray, List.set_cons_zero, List.set_cons_succ]
  have hhx := (HB3.out.block (gx + 1 + 1) hgw).trans HHR.out
  obtain ⟨hr0, hr1, hr2, hf0, hf1, hf2⟩ := three_cells hhx
  have HHX := Lib.hid hhx
  clear hhx
  refine HT.done (by kernel_rfl) ?_
  clear hS
  simp only [List.drop_succ_cons, List.drop_zero]
  go_wp2_with fail
  rw [HQ.out] at H3
  exact end_rnum rfl rfl rfl hr0 hr1 hr2 (outR_set (q := q / r) H3.out.1 (by have := HGX.out; omega) ⟨_, _, HHX.out⟩ H3.out.2.1 H3.out.2.2 (HBX.out.trans (HB3.out.mono HBX0.out)) (by omega) (by omega))
end Go.Proofs.YtocbogdjlapogaaGreatDoor

/- The document's limbs: add. -/
set_option linter.unusedSimpArgs false
set_option linter.unusedVariables false
namespace Go.Proofs.YtocbogdjlapogaaGreatDoor
open Go.RowKit Go.Dw
set_option maxRecDepth 100000 in
set_option maxHeartbeats 2000000 in
theorem RADD_any (A A' : Option Addr) (n c x n' c' y : Nat) (hn : n ≤ 1000000000) (hn' : n' ≤ 1000000000) (w : World) (B : Nat) (hB : B ≤ w.heap.size) (hh : Hid (LimAt w B A n c x)) (hh' : Hid (LimAt w B A' n' c' y)) :
    Calls Tryz.prog 42 #[.slice A n c, .slice A' n' c'] w (OutL w (x + y) (max n n' + 1)) := by
  obtain ⟨hc1, hc2, xs, hx, hv, hr⟩ := hh.out
  obtain ⟨hc1', hc2', ys, hx', hv', hr'⟩ := hh'.out
  have hl := hr.1
  have hl' := hr'.1
  unfold maxLen at hc2 hc2'
  have HX := Lib.hid hx
  have HV := Lib.hid hv
  have HR := Lib.hid hr
  have HX' := Lib.hid hx'
  have HV' := Lib.hid hv'
  have HR' := Lib.hid hr'
  have HL := Lib.hid hl
  have HL' := Lib.hid hl'
  clear hx hv hr hx' hv' hr' hl hl' hh hh'
  go_enter Tryz.func42, Tryz.ntmps42
  go_wp2_with fail
  go_loopw [5, 6, 7] (fun ov cv i wr => ∃ (k cN : Nat) (Ab : Option Addr) (cb : Nat) (L : List Nat), k ≤ max n n' ∧ i = .int .i64 k ∧ cv = .int .i64 cN ∧ ov = .slice Ab k cb ∧ cN ≤ 1 ∧ Hid (OwnN .i64 3 wr w.heap.size Ab k cb L) ∧ Hid (DigN 10000 L) ∧ Hid (valB 10000 L + 10000 ^ k * cN = valB 10000 (xs.take k) + valB 10000 (ys.take k)) ∧ Hid (Below w.heap.size w wr)) (fun _ _ i _ => max n n' - (intOf i).toNat)
  case atStart => exact ⟨0, 0, none, 0, [], Nat.zero_le _, rfl, rfl, rfl, Nat.zero_le _, OwnN.nil _ _ _ _, DigN.nil _, by show _ = _; simp [valB], Below.refl _ _⟩
  case round =>
    obtain ⟨k, cN, Ab, cb, L, hk, rfl, rfl, rfl, hcN, hown, hD, hI, hw⟩ := hrel
    have HRX := Lib.hid (HR.out.below hw.out hB)
    have HRY := Lib.hid (HR'.out.below hw.out hB)
    have hlk := Lib.hid hown.out.1
    by_cases hlt : k < max n n'
    · have hdx := HX.out.1.get (by omega) k
      have hdy := HX'.out.1.get (by omega) k
      obtain ⟨d, hd1⟩ : ∃ d, xs.getD k 0 = d := ⟨_, rfl⟩
      obtain ⟨d', hd2⟩ : ∃ d, ys.getD k 0 = d := ⟨_, rfl⟩
      have HD1 := Lib.hid hd1
      have HD2 := Lib.hid hd2
      rw [hd1] at hdx
      rw [hd2] at hdy
      obtain ⟨u, hu⟩ : ∃ u, cN + d = u := ⟨_, rfl⟩
      obtain ⟨s, hs⟩ : ∃ s, u + d' = s := ⟨_, rfl⟩
      have HU := Lib.hid hu
      have HS := Lib.hid hs
      have hui : (cN : Int) + (d : Int) = (u : Int) := by omega
      have hsi : (u : Int) + (d' : Int) = (s : Int) := by omega
      have hu1 : u < 20000 := by omega
      have hs1 : s < 30000 := by omega
      have HNEW := Lib.hid (add_snoc (b := 10000) (X := xs) (Y := ys) (s := s) hlk.out (by rw [HD1.out, HD2.out]; omega) hI.out)
      obtain ⟨r, hr1⟩ : ∃ r, s % 10000 = r := ⟨_, rfl⟩
      obtain ⟨t, ht1⟩ : ∃ t, s / 10000 = t := ⟨_, rfl⟩
      have hri : (s : Int).tmod 10000 = (r : Int) := by rw [← hr1]; exact tmodN s 10000
      have hti : (s : Int).tdiv 10000 = (t : Int) := by rw [← ht1]; exact tdivN s 10000
      have ht9 : t ≤ 1 := by omega
      have hr9 : r < 10000 := by omega
      rw [hr1, ht1] at HNEW
      have hk0 : (0 : Int) ≤ (k : Int) := by omega
      clear hd1 hd2 hu hs hr1 ht1
      by_cases hx : k < n
      · obtain ⟨q, o, rfl, hq⟩ := HRX.out.addr (by omega)
        have hx1 := HRX.out.cell hx
        rw [HD1.out] at hx1
        by_cases hy : k < n'
        · obtain ⟨q', o', rfl, hq'⟩ := HRY.out.addr (by omega)
          have hy1 := HRY.out.cell hy
          rw [HD2.out] at hy1
          go_wp2_with (at_builtin; refine wpList_push_num rfl (.tmp 42) (.tmp 45) 48 3 .i64 8 rfl Tryz.underlying48 int_info w.heap.size Ab k cb L r _ rfl _ rfl rfl rfl hown.out (by omega) (by omega) hw.out.size ?_; intro g cap w3 p1 p2 p3)
          go_roundw
          case rel => exact ⟨k + 1, t, some ⟨g, 0, none⟩, cap, L ++ [r], by omega, by go_num, rfl, rfl, ht9, p1, hD.out.snoc hr9, HNEW, Lib.hid (hw.out.trans p2.out)⟩
          case measure => simp [intOf] <;> omega
        · obtain rfl : d' = 0 := by rw [← HD2.out]; exact getD_over (by rw [HL'.out]; omega)
          obtain rfl : u = s := by have := HS.out; omega
          clear hsi
          go_wp2_with (at_builtin; refine wpList_push_num rfl (.tmp 42) (.tmp 45) 48 3 .i64 8 rfl Tryz.underlying48 int_info w.heap.size Ab k cb L r _ rfl _ rfl rfl rfl hown.out (by omega) (by omega) hw.out.size ?_; intro g cap w3 p1 p2 p3)
          go_roundw
          case rel => exact ⟨k + 1, t, some ⟨g, 0, none⟩, cap, L ++ [r], by omega, by go_num, rfl, rfl, ht9, p1, hD.out.snoc hr9, HNEW, Lib.hid (hw.out.trans p2.out)⟩
          case measure => simp [intOf] <;> omega
      · have hy : k < n' := by omega
        obtain rfl : d = 0 := by rw [← HD1.out]; exact getD_over (by rw [HL.out]; omega)
        obtain rfl : cN = u := by have := HU.out; omega
        obtain ⟨q', o', rfl, hq'⟩ := HRY.out.addr (by omega)
        have hy1 := HRY.out.cell hy
        rw [HD2.out] at hy1
        clear hui
        go_wp2_with (at_builtin; refine wpList_push_num rfl (.tmp 42) (.tmp 45) 48 3 .i64 8 rfl Tryz.underlying48 int_info w.heap.size Ab k cb L r _ rfl _ rfl rfl rfl hown.out (by omega) (by omega) hw.out.size ?_; intro g cap w3 p1 p2 p3)
        go_roundw
        case rel => exact ⟨k + 1, t, some ⟨g, 0, none⟩, cap, L ++ [r], by omega, by go_num, rfl, rfl, ht9, p1, hD.out.snoc hr9, HNEW, Lib.hid (hw.out.trans p2.out)⟩
        case measure => simp [intOf] <;> omega
    · have hkm : k = max n n' := by omega
      have hx : ¬ k < n := by omega
      have hy : ¬ k < n' := by omega
      have hI2 := hI.out
      rw [List.take_of_length_le (l := xs) (by rw [HL.out]; omega), List.take_of_length_le (l := ys) (by rw [HL'.out]; omega), HV.out, HV'.out] at hI2
      by_cases hc0 : cN = 0
      · subst hc0
        have HE : Hid (valB 10000 L = x + y) := by show _ = _; omega
        have HC : Hid (CanN 10000 L) := by
          by_cases hg : n' ≤ n
          · exact CanN.of_le (by omega) HX.out hD.out (by rw [hlk.out, HL.out]; omega) (by rw [HE.out, HV.out]; omega)
          · exact CanN.of_le (by omega) HX'.out hD.out (by rw [hlk.out, HL'.out]; omega) (by rw [HE.out, HV'.out]; omega)
        clear hI2 hkm
        go_wp2_with fail
        go_ret
        exact ⟨_, _, _, rfl, by rw [← HE.out]; exact hown.out.num HC.out, by omega, hw.out⟩
      · have hc1 : 0 < cN := by omega
        have HE : Hid (valB 10000 (L ++ [cN]) = x + y) := by show _ = _; rw [valB_snoc, hlk.out]; omega
        have HC : Hid (CanN 10000 (L ++ [cN])) := CanN.snoc hD.out (by omega) hc0
        have hc2 : (0 : Int) < (cN : Int) := by omega
        clear hI2 hc0 hkm
        go_wp2_with (at_builtin; refine wpList_push_num rfl (.tmp 51) (.tmp 53) 48 3 .i64 8 rfl Tryz.underlying48 int_info w.heap.size Ab k cb L cN _ rfl _ rfl rfl rfl hown.out (by omega) (by omega) hw.out.size ?_; intro g cap w3 p1 p2 p3)
        go_ret
        exact ⟨_, _, _, rfl, by rw [← HE.out]; exact p1.out.num HC.out, by omega, hw.out.trans p2.out⟩
end Go.Proofs.YtocbogdjlapogaaGreatDoor

/- The document's numbers: Times, Minus, Plus. -/
set_option linter.unusedSimpArgs false
set_option linter.unusedVariables false
namespace Go.Proofs.YtocbogdjlapogaaGreatDoor
open Go.RowKit Go.Dw
set_option maxRecDepth 100000 in
set_option maxHeartbeats 4000000 in
theorem RNTIMES_any (neg neg' : Bool) (A A' D D' : Option Addr) (n c m d n' c' m' d' : Nat) (q r : Rat) (hn : n ≤ 10000000) (hm : m ≤ 10000000) (hn' : n' ≤ 10000000) (hm' : m' ≤ 10000000) (w : World) (B : Nat) (hB : B ≤ w.heap.size) (hh : Hid (NumR w B neg A n c D m d q)) (hh' : Hid (NumR w B neg' A' n' c' D' m' d' r)) :
    Calls Tryz.prog 23 #[.agg #[.bool neg, .slice A n c, .slice D m d], .agg #[.bool neg', .slice A' n' c', .slice D' m' d']] w (OutR w (q * r) (n + n') (m + m')) := by
  obtain ⟨W, gx, hW, hgx, HHW, HBX, HSW⟩ := boxes3 w (.cells #[.bool neg, .slice A n c, .slice D m d] 50) (.cells #[.bool neg', .slice A' n' c', .slice D' m' d'] 50) (.cells #[.bool false, .slice none 0 0, .slice none 0 0] 50)
  have HGX := Lib.hid hgx
  obtain ⟨x0, x1, x2, _, _, _⟩ := three_cells HHW.out.1
  obtain ⟨y0, y1, y2, _, _, _⟩ := three_cells HHW.out.2.1
  have HHR := Lib.hid HHW.out.2.2
  have hgw := blk_lt HHW.out.2.2
  have HRW := Lib.hid (hh.out.to HBX.out hB (by have := HSW.out; omega))
  have HRW' := Lib.hid (hh'.out.to HBX.out hB (by have := HSW.out; omega))
  have HBX0 := Lib.hid (HBX.out.size)
  have HQ := Lib.hid (rtimes_eq q r)
  have HZ : Hid (0 < q.den * r.den) := Nat.mul_pos q.den_pos r.den_pos
  have HNE : Hid ((!(neg == neg')) = (decide (q.num < 0) != decide (r.num < 0))) := by show _ = _; rw [hh.out.1, hh'.out.1]; rfl
  obtain ⟨sg, hsg⟩ : ∃ sg, (decide (q.num < 0) != decide (r.num < 0)) = sg := ⟨_, rfl⟩
  rw [hsg] at HQ HNE
  clear hsg hh hh'
  go_enter Tryz.func23, Tryz.ntmps23
  go_upto_region 1 with (fail)
  rw [← hW, ← hgx]
  clear hW hgx
  obtain ⟨W, rfl⟩ : ∃ Wx : World, Wx = W := ⟨_, rfl⟩
  refine wp_region_text 16 (fun x => x.cell? ⟨gx, 0, none⟩ = some (.bool neg) ∧ x.cell? ⟨gx, 1, none⟩ = some (.slice A n c) ∧ x.cell? ⟨gx, 2, none⟩ = some (.slice D m d) ∧ x.cell? ⟨gx + 1, 0, none⟩ = some (.bool neg') ∧ x.cell? ⟨gx + 1, 1, none⟩ = some (.slice A' n' c') ∧ x.cell? ⟨gx + 1, 2, none⟩ = some (.slice D' m' d')) (by kernel_rfl) (by kernel_rfl) ?_
  have hS : W.drew.cell? ⟨gx, 0, none⟩ = some (.bool neg) ∧ W.drew.cell? ⟨gx, 1, none⟩ = some (.slice A n c) ∧ W.drew.cell? ⟨gx, 2, none⟩ = some (.slice D m d) ∧ W.drew.cell? ⟨gx + 1, 0, none⟩ = some (.bool neg') ∧ W.drew.cell? ⟨gx + 1, 1, none⟩ = some (.slice A' n' c') ∧ W.drew.cell? ⟨gx + 1, 2, none⟩ = some (.slice D' m' d') := ⟨x0, x1, x2, y0, y1, y2⟩
  have hS0 := And.intro x0 (And.intro x1 (And.intro x2 (And.intro y0 (And.intro y1 y2))))
  refine HT.take (i := 0) (oi := _) (v := ?_) rfl (by kernel_rfl) (by kernel_rfl) (by decide) (fun _ _ _ h => h) (Or.inl ⟨by rfl, ?_⟩) hS ?_
  rotate_left
  · intro wz
    go_simp
    try with_reducible rfl
  simp only [List.getElem_toArray, List.getElem_cons_succ, List.getElem_cons_zero, Act.put, List.setIfInBounds_toArray, List.set_cons_zero, List.set_cons_succ]
  refine HT.load (i := 1) (oi := _) (v := ?_) rfl (by kernel_rfl) (by kernel_rfl) (by decide) (fun _ _ _ h => h) (by kernel_rfl) (Or.inl ⟨by rfl, ?_⟩) hS ?_
  rotate_left
  · intro wz hwz
    try dsimp only at hwz
    go_simp
    try with_reducible rfl
  simp only [List.getElem_toArray, List.getElem_cons_succ, List.getElem_cons_zero, Act.put, List.setIfInBounds_toArray, List.set_cons_zero, List.set_cons_succ]
  refine HT.take (i := 2) (oi := _) (v := ?_) rfl (by kernel_rfl) (by kernel_rfl) (by decide) (fun _ _ _ h => h) (Or.inl ⟨by rfl, ?_⟩) hS ?_
  rotate_left
  · intro wz
    go_simp
    try with_reducible rfl
  simp only [List.getElem_toArray, List.getElem_cons_succ, List.getElem_cons_zero, Act.put, List.setIfInBounds_toArray, List.set_cons_zero, List.set_cons_succ]
  refine HT.load (i := 3) (oi := _) (v := ?_) rfl (by kernel_rfl) (by kernel_rfl) (by decide) (fun _ _ _ h => h) (by kernel_rfl) (Or.inl ⟨by rfl, ?_⟩) hS ?_
  rotate_left
  · intro wz hwz
    try dsimp only at hwz
    go_simp
    try with_reducible rfl
  simp only [List.getElem_toArray, List.getElem_cons_succ, List.getElem_cons_zero, Act.put, List.setIfInBounds_toArray, List.set_cons_zero, List.set_cons_succ]
  refine HT.take (i := 4) (oi := _) (v := ?_) rfl (by kernel_rfl) (by kernel_rfl) (by decide) (fun _ _ _ h => h) (Or.inl ⟨by rfl, ?_⟩) hS ?_
  rotate_left
  · intro wz
    go_simp
    try with_reducible rfl
  simp only [List.getElem_toArray, List.getElem_cons_succ, List.getElem_cons_zero, Act.put, List.setIfInBounds_toArray, List.set_cons_zero, List.set_cons_succ]
  refine HT.take (i := 5) (oi := _) (v := ?_) rfl (by kernel_rfl) (by kernel_rfl) (by decide) (fun _ _ _ h => h) (Or.inl ⟨by rfl, ?_⟩) hS ?_
  rotate_left
  · intro wz
    go_simp
    try with_reducible rfl
  simp only [List.getElem_toArray, List.getElem_cons_succ, List.getElem_cons_zero, Act.put, List.setIfInBounds_toArray, List.set_cons_zero, List.set_cons_succ]
  refine HT.load (i := 6) (oi := _) (v := ?_) rfl (by kernel_rfl) (by kernel_rfl) (by decide) (fun _ _ _ h => h) (by kernel_rfl) (Or.inl ⟨by rfl, ?_⟩) hS ?_
  rotate_left
  · intro wz hwz
    try dsimp only at hwz
    go_simp
    try with_reducible rfl
  simp only [List.getElem_toArray, List.getElem_cons_succ, List.getElem_cons_zero, Act.put, List.setIfInBounds_toArray, List.set_cons_zero, List.set_cons_succ]
  refine HT.take (i := 7) (oi := _) (v := ?_) rfl (by kernel_rfl) (by kernel_rfl) (by decide) (fun _ _ _ h => h) (Or.inl ⟨by rfl, ?_⟩) hS ?_
  rotate_left
  · intro wz
    go_simp
    try with_reducible rfl
  simp only [List.getElem_toArray, List.getElem_cons_succ, List.getElem_cons_zero, Act.put, List.setIfInBounds_toArray, List.set_cons_zero, List.set_cons_succ]
  refine HT.load (i := 8) (oi := _) (v := ?_) rfl (by kernel_rfl) (by kernel_rfl) (by decide) (fun _ _ _ h => h) (by kernel_rfl) (Or.inl ⟨by rfl, ?_⟩) hS ?_
  rotate_left
  · intro wz hwz
    try dsimp only at hwz
    go_simp
    try with_reducible rfl
  simp only [List.getElem_toArray, List.getElem_cons_succ, List.getElem_cons_zero, Act.put, List.setIfInBounds_toArray, List.set_cons_zero, List.set_cons_succ]
  refine HT.take (i := 10) (oi := _) (v := ?_) rfl (by kernel_rfl) (by kernel_rfl) (by decide) (fun _ _ _ h => h) (Or.inl ⟨by rfl, ?_⟩) hS ?_
  rotate_left
  · intro wz
    go_simp
    try with_reducible rfl
  simp only [List.getElem_toArray, List.getElem_cons_succ, List.getElem_cons_zero, Act.put, List.setIfInBounds_toArray, List.set_cons_zero, List.set_cons_succ]
  refine HT.load (i := 11) (oi := _) (v := ?_) rfl (by kernel_rfl) (by kernel_rfl) (by decide) (fun _ _ _ h => h) (by kernel_rfl) (Or.inl ⟨by rfl, ?_⟩) hS ?_
  rotate_left
  · intro wz hwz
    try dsimp only at hwz
    go_simp
    try with_reducible rfl
  simp only [List.getElem_toArray, List.getElem_cons_succ, List.getElem_cons_zero, Act.put, List.setIfInBounds_toArray, List.set_cons_zero, List.set_cons_succ]
  refine HT.take (i := 12) (oi := _) (v := ?_) rfl (by kernel_rfl) (by kernel_rfl) (by decide) (fun _ _ _ h => h) (Or.inl ⟨by rfl, ?_⟩) hS ?_
  rotate_left
  · intro wz
    go_simp
    try with_reducible rfl
  simp only [List.getElem_toArray, List.getElem_cons_succ, List.getElem_cons_zero, Act.put, List.setIfInBounds_toArray, List.set_cons_zero, List.set_cons_succ]
  refine HT.load (i := 13) (oi := _) (v := ?_) rfl (by kernel_rfl) (by kernel_rfl) (by decide) (fun _ _ _ h => h) (by kernel_rfl) (Or.inl ⟨by rfl, ?_⟩) hS ?_
  rotate_left
  · intro wz hwz
    try dsimp only at hwz
    go_simp
    try with_reducible rfl
  simp only [List.getElem_toArray, List.getElem_cons_succ, List.getElem_cons_zero, Act.put, List.setIfInBounds_toArray, List.set_cons_zero, List.set_cons_succ]
  refine HT.one (i := 9) (o := _) rfl (by kernel_rfl) (by decide) (by rfl) ?_
  intro K hK
  go_simp
  refine (RTIMES_any A A' n c _ n' c' _ (by omega) (by omega) _ W.heap.size (by exact Nat.le_refl _) (by exact Lib.hid HRW.out.2.1) (by exact Lib.hid HRW'.out.2.1)).mono ?_
  rintro e w1 ⟨A1, n1, c1, rfl, h1, k1, hb1⟩
  replace hb1 : Below W.heap.size W w1 := below_undrew hb1
  have H1 := Lib.hid h1
  have HB1 := Lib.hid hb1
  clear h1 hb1
  refine hK.out _ _ (six_keep hS0 HB1.out (by omega) (by omega)) ?_
  clear hK K hS
  have hS := six_keep hS0 HB1.out (by omega) (by omega)
  try simp only [List.getElem_toArray, List.getElem_cons_succ, List.getElem_cons_zero, Act.put, List.setIfInBounds_toArray, List.set_cons_zero, List.set_cons_succ]
  refine HT.one (i := 14) (o := _) rfl (by kernel_rfl) (by decide) (by rfl) ?_
  intro K hK
  go_simp
  refine (RTIMES_any D D' m d _ m' d' _ (by omega) (by omega) _ W.heap.size (by exact HB1.out.size) (by exact Lib.hid (HRW.out.2.2.below HB1.out (Nat.le_refl _))) (by exact Lib.hid (HRW'.out.2.2.below HB1.out (Nat.le_refl _)))).mono ?_
  rintro e w2 ⟨A2, n2, c2, rfl, h2, k2, hb2⟩
  have H2 := Lib.hid h2
  have HB2 := Lib.hid (HB1.out.trans (hb2.mono HB1.out.size))
  have HL2 := Lib.hid hb2
  clear h2 hb2
  refine hK.out _ _ (six_keep hS0 HB2.out (by omega) (by omega)) ?_
  clear hK K hS
  have hS := six_keep hS0 HB2.out (by omega) (by omega)
  try simp only [List.getElem_toArray, List.getElem_cons_succ, List.getElem_cons_zero, Act.put, List.setIfInBounds_toArray, List.set_cons_zero, List.set_cons_succ]
  rw [HNE.out]
  refine HT.one (i := 15) (o := _) rfl (by kernel_rfl) (by decide) (by rfl) ?_
  intro K hK
  go_simp
  refine (RLOWEST_any sg A1 A2 n1 c1 _ n2 c2 _ (by omega) (by omega) HZ.out _ w2.heap.size (Nat.le_refl _) (Lib.hid (H1.out.to HL2.out (Nat.le_refl _) HL2.out.size)) H2).mono ?_
  rintro e w3 ⟨ng3, A3, n3, c3, A4, n4, c4, rfl, h3, k3, k4, hb3⟩
  have H3 := Lib.hid h3
  have HB3 := Lib.hid (HB2.out.trans (hb3.mono HB2.out.size))
  have HL3 := Lib.hid hb3
  clear h3 hb3
  refine hK.out _ _ (six_keep hS0 HB3.out (by omega) (by omega)) ?_
  clear hK K hS
  have hS := six_keep hS0 HB3.out (by omega) (by omega)
  try simp only [List.getElem_toArray, List.getElem_cons_succ, List.getElem_cons_zero, Act.put, List.setIfInBounds_toArray, List.set_cons_zero, List.set_cons_succ]
  have hhx := (HB3.out.block (gx + 1 + 1) hgw).trans HHR.out
  obtain ⟨hr0, hr1, hr2, hf0, hf1, hf2⟩ := three_cells hhx
  have HHX := Lib.hid hhx
  clear hhx
  refine HT.done (by kernel_rfl) ?_
  clear hS
  simp only [List.drop_succ_cons, List.drop_zero]
  go_wp2_with fail
  rw [HQ.out] at H3
  exact end_rnum rfl rfl rfl hr0 hr1 hr2 (outR_set (q := q * r) H3.out.1 (by have := HGX.out; omega) ⟨_, _, HHX.out⟩ H3.out.2.1 H3.out.2.2 (HBX.out.trans (HB3.out.mono HBX0.out)) (by omega) (by omega))
set_option maxRecDepth 100000 in
set_option maxHeartbeats 1000000 in
theorem RMINUS_any (neg : Bool) (A D : Option Addr) (n c m d : Nat) (q : Rat) (w : World) (B : Nat) (hB : B ≤ w.heap.size) (hh : Hid (NumR w B neg A n c D m d q)) :
    Calls Tryz.prog 22 #[.agg #[.bool neg, .slice A n c, .slice D m d]] w (OutR w (-q) n m) := by
  obtain ⟨W, gx, hW, hgx, HHW, HBW, HSW⟩ := boxes2 w (.cells #[.bool neg, .slice A n c, .slice D m d] 50) (.cells #[.bool false, .slice none 0 0, .slice none 0 0] 50)
  have HGX := Lib.hid hgx
  obtain ⟨x0, x1, x2, _, _, _⟩ := three_cells HHW.out.1
  obtain ⟨hr0, hr1, hr2, hf0, hf1, hf2⟩ := three_cells HHW.out.2
  have HHX := Lib.hid HHW.out.2
  have hgw := blk_lt HHW.out.2
  have HRW := Lib.hid (hh.out.to HBW.out hB (by have := HSW.out; omega))
  have HNEG := Lib.hid hh.out.1
  have HPOS := Lib.hid (hh.out.2.1.pos_iff (by omega))
  go_enter Tryz.func22, Tryz.ntmps22
  go_upto_region 1 with (fail)
  rw [← hW, ← hgx]
  clear hW hgx HHW
  cases neg with
  | true =>
    have HS : Hid (false = decide ((-q).num < 0)) := by
      have hz : q.num < 0 := by have := HNEG.out; simpa using this
      show _ = _; rw [Rat.neg_num]; exact (decide_eq_false (by omega)).symm
    go_wp2_with fail
    exact end_rnum rfl rfl rfl hr0 hr1 hr2 (outR_set (q := -q) HS.out (by have := HGX.out; omega) ⟨_, _, HHX.out⟩ (by rw [Rat.neg_num, Int.natAbs_neg]; exact HRW.out.2.1) (by rw [Rat.neg_den]; exact HRW.out.2.2) HBW.out (Nat.le_refl _) (Nat.le_refl _))
  | false =>
    have hz : ¬ q.num < 0 := by have := HNEG.out; simpa using this
    by_cases hn : 0 < n
    · have HS : Hid (true = decide ((-q).num < 0)) := by
        have := HPOS.out.1 hn
        show _ = _; rw [Rat.neg_num]; exact (decide_eq_true (by omega)).symm
      clear hz
      have hn9 : (0 : Int) < (n : Int) := by omega
      go_wp2_with fail
      exact end_rnum rfl rfl rfl hr0 hr1 hr2 (outR_set (q := -q) HS.out (by have := HGX.out; omega) ⟨_, _, HHX.out⟩ (by rw [Rat.neg_num, Int.natAbs_neg]; exact HRW.out.2.1) (by rw [Rat.neg_den]; exact HRW.out.2.2) HBW.out (Nat.le_refl _) (Nat.le_refl _))
    · have HS : Hid (false = decide ((-q).num < 0)) := by
        have : ¬ 0 < q.num.natAbs := fun h => hn (HPOS.out.2 h)
        show _ = _; rw [Rat.neg_num]; exact (decide_eq_false (by omega)).symm
      clear hz
      have hn9 : ¬ (0 : Int) < (n : Int) := by omega
      go_wp2_with fail
      exact end_rnum rfl rfl rfl hr0 hr1 hr2 (outR_set (q := -q) HS.out (by have := HGX.out; omega) ⟨_, _, HHX.out⟩ (by rw [Rat.neg_num, Int.natAbs_neg]; exact HRW.out.2.1) (by rw [Rat.neg_den]; exact HRW.out.2.2) HBW.out (Nat.le_refl _) (Nat.le_refl _))
theorem mul_den (q : Rat) (d : Nat) (hd : 0 < d) : (q.num * (d : Int)).natAbs = q.num.natAbs * d ∧ decide (q.num * (d : Int) < 0) = decide (q.num < 0) := by
  refine ⟨by rw [Int.natAbs_mul, Int.natAbs_natCast], ?_⟩
  rcases Int.lt_trichotomy q.num 0 with h | h | h
  · rw [decide_eq_true h, decide_eq_true (Int.mul_neg_of_neg_of_pos h (by omega))]
  · rw [h]; simp
  · have := Int.mul_pos h (show (0 : Int) < d by omega)
    rw [decide_eq_false (by omega), decide_eq_false (by omega)]
theorem sgn_same (u v : Int) (h : decide (u < 0) = decide (v < 0)) : sgnZ (decide (u < 0)) (u.natAbs + v.natAbs) = u + v := by
  unfold sgnZ
  by_cases hu : u < 0
  · have hv : v < 0 := by rw [decide_eq_true hu] at h; simpa using h.symm
    rw [decide_eq_true hu, if_pos rfl]; omega
  · have hv : ¬ v < 0 := by rw [decide_eq_false hu] at h; simpa using h.symm
    rw [decide_eq_false hu, if_neg (by simp)]; omega
theorem sgn_less (u v : Int) (h : decide (u < 0) ≠ decide (v < 0)) (hle : v.natAbs ≤ u.natAbs) : sgnZ (decide (u < 0)) (u.natAbs - v.natAbs) = u + v := by
  unfold sgnZ
  by_cases hu : u < 0
  · have hv : ¬ v < 0 := fun k => h (by rw [decide_eq_true hu, decide_eq_true k])
    rw [decide_eq_true hu, if_pos rfl]; omega
  · have hv : v < 0 := Classical.byContradiction fun k => h (by rw [decide_eq_false hu, decide_eq_false k])
    rw [decide_eq_false hu, if_neg (by simp)]; omega
theorem rplus_same (q r : Rat) (h : decide (q.num < 0) = decide (r.num < 0)) : mkRat (sgnZ (decide (q.num < 0)) (q.num.natAbs * r.den + r.num.natAbs * q.den)) (q.den * r.den) = q + r := by
  obtain ⟨a1, a2⟩ := mul_den q r.den r.den_pos
  obtain ⟨b1, b2⟩ := mul_den r q.den q.den_pos
  rw [← a1, ← b1, ← a2, sgn_same _ _ (by rw [a2, b2, h]), add_eq]
theorem rplus_ge (q r : Rat) (h : decide (q.num < 0) ≠ decide (r.num < 0)) (hle : r.num.natAbs * q.den ≤ q.num.natAbs * r.den) : mkRat (sgnZ (decide (q.num < 0)) (q.num.natAbs * r.den - r.num.natAbs * q.den)) (q.den * r.den) = q + r := by
  obtain ⟨a1, a2⟩ := mul_den q r.den r.den_pos
  obtain ⟨b1, b2⟩ := mul_den r q.den q.den_pos
  rw [← a1, ← b1] at hle
  rw [← a1, ← b1, ← a2, sgn_less _ _ (by rw [a2, b2]; exact h) hle, add_eq]
theorem rplus_lt (q r : Rat) (h : decide (q.num < 0) ≠ decide (r.num < 0)) (hle : q.num.natAbs * r.den ≤ r.num.natAbs * q.den) : mkRat (sgnZ (decide (r.num < 0)) (r.num.natAbs * q.den - q.num.natAbs * r.den)) (q.den * r.den) = q + r := by
  rw [Nat.mul_comm q.den, Rat.add_comm]
  exact rplus_ge r q (Ne.symm h) hle
set_option maxRecDepth 100000 in
set_option maxHeartbeats 8000000 in
theorem RPLUS_any (neg neg' : Bool) (A A' D D' : Option Addr) (n c m d n' c' m' d' : Nat) (q r : Rat) (hn : n ≤ 10000000) (hm : m ≤ 10000000) (hn' : n' ≤ 10000000) (hm' : m' ≤ 10000000) (w : World) (B : Nat) (hB : B ≤ w.heap.size) (hh : Hid (NumR w B neg A n c D m d q)) (hh' : Hid (NumR w B neg' A' n' c' D' m' d' r)) :
    Calls Tryz.prog 20 #[.agg #[.bool neg, .slice A n c, .slice D m d], .agg #[.bool neg', .slice A' n' c', .slice D' m' d']] w (OutR w (q + r) (max (n + m') (n' + m) + 1) (m + m')) := by
  obtain ⟨W, gx, hW, hgx, HHW, HBX, HSW⟩ := boxes3 w (.cells #[.bool neg, .slice A n c, .slice D m d] 50) (.cells #[.bool neg', .slice A' n' c', .slice D' m' d'] 50) (.cells #[.bool false, .slice none 0 0, .slice none 0 0] 50)
  have HGX := Lib.hid hgx
  obtain ⟨x0, x1, x2, _, _, _⟩ := three_cells HHW.out.1
  obtain ⟨y0, y1, y2, _, _, _⟩ := three_cells HHW.out.2.1
  have HHR := Lib.hid HHW.out.2.2
  have hgw := blk_lt HHW.out.2.2
  have HRW := Lib.hid (hh.out.to HBX.out hB (by have := HSW.out; omega))
  have HRW' := Lib.hid (hh'.out.to HBX.out hB (by have := HSW.out; omega))
  have HBX0 := Lib.hid (HBX.out.size)
  have HZ : Hid (0 < q.den * r.den) := Nat.mul_pos q.den_pos r.den_pos
  have HN1 := Lib.hid hh.out.1
  have HN2 := Lib.hid hh'.out.1
  clear hh hh'
  go_enter Tryz.func20, Tryz.ntmps20
  go_upto_region 1 with (fail)
  rw [← hW, ← hgx]
  clear hW hgx
  obtain ⟨W, rfl⟩ : ∃ Wx : World, Wx = W := ⟨_, rfl⟩
  refine wp_region_text 18 (fun x => x.cell? ⟨gx, 0, none⟩ = some (.bool neg) ∧ x.cell? ⟨gx, 1, none⟩ = some (.slice A n c) ∧ x.cell? ⟨gx, 2, none⟩ = some (.slice D m d) ∧ x.cell? ⟨gx + 1, 0, none⟩ = some (.bool neg') ∧ x.cell? ⟨gx + 1, 1, none⟩ = some (.slice A' n' c') ∧ x.cell? ⟨gx + 1, 2, none⟩ = some (.slice D' m' d')) (by kernel_rfl) (by kernel_rfl) ?_
  have hS : W.drew.cell? ⟨gx, 0, none⟩ = some (.bool neg) ∧ W.drew.cell? ⟨gx, 1, none⟩ = some (.slice A n c) ∧ W.drew.cell? ⟨gx, 2, none⟩ = some (.slice D m d) ∧ W.drew.cell? ⟨gx + 1, 0, none⟩ = some (.bool neg') ∧ W.drew.cell? ⟨gx + 1, 1, none⟩ = some (.slice A' n' c') ∧ W.drew.cell? ⟨gx + 1, 2, none⟩ = some (.slice D' m' d') := ⟨x0, x1, x2, y0, y1, y2⟩
  have hS0 := And.intro x0 (And.intro x1 (And.intro x2 (And.intro y0 (And.intro y1 y2))))
  refine HT.take (i := 0) (oi := _) (v := ?_) rfl (by kernel_rfl) (by kernel_rfl) (by decide) (fun _ _ _ h => h) (Or.inl ⟨by rfl, ?_⟩) hS ?_
  rotate_left
  · intro wz
    go_simp
    try with_reducible rfl
  simp only [List.getElem_toArray, List.getElem_cons_succ, List.getElem_cons_zero, Act.put, List.setIfInBounds_toArray, List.set_cons_zero, List.set_cons_succ]
  refine HT.load (i := 1) (oi := _) (v := ?_) rfl (by kernel_rfl) (by kernel_rfl) (by decide) (fun _ _ _ h => h) (by kernel_rfl) (Or.inl ⟨by rfl, ?_⟩) hS ?_
  rotate_left
  · intro wz hwz
    try dsimp only at hwz
    go_simp
    try with_reducible rfl
  simp only [List.getElem_toArray, List.getElem_cons_succ, List.getElem_cons_zero, Act.put, List.setIfInBounds_toArray, List.set_cons_zero, List.set_cons_succ]
  refine HT.take (i := 2) (oi := _) (v := ?_) rfl (by kernel_rfl) (by kernel_rfl) (by decide) (fun _ _ _ h => h) (Or.inl ⟨by rfl, ?_⟩) hS ?_
  rotate_left
  · intro wz
    go_simp
    try with_reducible rfl
  simp only [List.getElem_toArray, List.getElem_cons_succ, List.getElem_cons_zero, Act.put, List.setIfInBounds_toArray, List.set_cons_zero, List.set_cons_succ]
  refine HT.load (i := 3) (oi := _) (v := ?_) rfl (by kernel_rfl) (by kernel_rfl) (by decide) (fun _ _ _ h => h) (by kernel_rfl) (Or.inl ⟨by rfl, ?_⟩) hS ?_
  rotate_left
  · intro wz hwz
    try dsimp only at hwz
    go_simp
    try with_reducible rfl
  simp only [List.getElem_toArray, List.getElem_cons_succ, List.getElem_cons_zero, Act.put, List.setIfInBounds_toArray, List.set_cons_zero, List.set_cons_succ]
  refine HT.take (i := 5) (oi := _) (v := ?_) rfl (by kernel_rfl) (by kernel_rfl) (by decide) (fun _ _ _ h => h) (Or.inl ⟨by rfl, ?_⟩) hS ?_
  rotate_left
  · intro wz
    go_simp
    try with_reducible rfl
  simp only [List.getElem_toArray, List.getElem_cons_succ, List.getElem_cons_zero, Act.put, List.setIfInBounds_toArray, List.set_cons_zero, List.set_cons_succ]
  refine HT.load (i := 6) (oi := _) (v := ?_) rfl (by kernel_rfl) (by kernel_rfl) (by decide) (fun _ _ _ h => h) (by kernel_rfl) (Or.inl ⟨by rfl, ?_⟩) hS ?_
  rotate_left
  · intro wz hwz
    try dsimp only at hwz
    go_simp
    try with_reducible rfl
  simp only [List.getElem_toArray, List.getElem_cons_succ, List.getElem_cons_zero, Act.put, List.setIfInBounds_toArray, List.set_cons_zero, List.set_cons_succ]
  refine HT.take (i := 7) (oi := _) (v := ?_) rfl (by kernel_rfl) (by kernel_rfl) (by decide) (fun _ _ _ h => h) (Or.inl ⟨by rfl, ?_⟩) hS ?_
  rotate_left
  · intro wz
    go_simp
    try with_reducible rfl
  simp only [List.getElem_toArray, List.getElem_cons_succ, List.getElem_cons_zero, Act.put, List.setIfInBounds_toArray, List.set_cons_zero, List.set_cons_succ]
  refine HT.load (i := 8) (oi := _) (v := ?_) rfl (by kernel_rfl) (by kernel_rfl) (by decide) (fun _ _ _ h => h) (by kernel_rfl) (Or.inl ⟨by rfl, ?_⟩) hS ?_
  rotate_left
  · intro wz hwz
    try dsimp only at hwz
    go_simp
    try with_reducible rfl
  simp only [List.getElem_toArray, List.getElem_cons_succ, List.getElem_cons_zero, Act.put, List.setIfInBounds_toArray, List.set_cons_zero, List.set_cons_succ]
  refine HT.take (i := 10) (oi := _) (v := ?_) rfl (by kernel_rfl) (by kernel_rfl) (by decide) (fun _ _ _ h => h) (Or.inl ⟨by rfl, ?_⟩) hS ?_
  rotate_left
  · intro wz
    go_simp
    try with_reducible rfl
  simp only [List.getElem_toArray, List.getElem_cons_succ, List.getElem_cons_zero, Act.put, List.setIfInBounds_toArray, List.set_cons_zero, List.set_cons_succ]
  refine HT.load (i := 11) (oi := _) (v := ?_) rfl (by kernel_rfl) (by kernel_rfl) (by decide) (fun _ _ _ h => h) (by kernel_rfl) (Or.inl ⟨by rfl, ?_⟩) hS ?_
  rotate_left
  · intro wz hwz
    try dsimp only at hwz
    go_simp
    try with_reducible rfl
  simp only [List.getElem_toArray, List.getElem_cons_succ, List.getElem_cons_zero, Act.put, List.setIfInBounds_toArray, List.set_cons_zero, List.set_cons_succ]
  refine HT.take (i := 12) (oi := _) (v := ?_) rfl (by kernel_rfl) (by kernel_rfl) (by decide) (fun _ _ _ h => h) (Or.inl ⟨by rfl, ?_⟩) hS ?_
  rotate_left
  · intro wz
    go_simp
    try with_reducible rfl
  simp only [List.getElem_toArray, List.getElem_cons_succ, List.getElem_cons_zero, Act.put, List.setIfInBounds_toArray, List.set_cons_zero, List.set_cons_succ]
  refine HT.load (i := 13) (oi := _) (v := ?_) rfl (by kernel_rfl) (by kernel_rfl) (by decide) (fun _ _ _ h => h) (by kernel_rfl) (Or.inl ⟨by rfl, ?_⟩) hS ?_
  rotate_left
  · intro wz hwz
    try dsimp only at hwz
    go_simp
    try with_reducible rfl
  simp only [List.getElem_toArray, List.getElem_cons_succ, List.getElem_cons_zero, Act.put, List.setIfInBounds_toArray, List.set_cons_zero, List.set_cons_succ]
  refine HT.one (i := 4) (o := _) rfl (by kernel_rfl) (by decide) (by rfl) ?_
  intro K hK
  go_simp
  refine (RTIMES_any A D' n c _ m' d' _ (by omega) (by omega) _ W.heap.size (by exact Nat.le_refl _) (by exact Lib.hid HRW.out.2.1) (by exact Lib.hid HRW'.out.2.2)).mono ?_
  rintro e w1 ⟨A4, n4, c4, rfl, h1, k1, hb1⟩
  replace hb1 : Below W.heap.size W w1 := below_undrew hb1
  have H1 := Lib.hid h1
  have HB1 := Lib.hid hb1
  clear h1 hb1
  refine hK.out _ _ (six_keep hS0 HB1.out (by omega) (by omega)) ?_
  clear hK K hS
  have hS := six_keep hS0 HB1.out (by omega) (by omega)
  try simp only [List.getElem_toArray, List.getElem_cons_succ, List.getElem_cons_zero, Act.put, List.setIfInBounds_toArray, List.set_cons_zero, List.set_cons_succ]
  refine HT.one (i := 9) (o := _) rfl (by kernel_rfl) (by decide) (by rfl) ?_
  intro K hK
  go_simp
  refine (RTIMES_any A' D n' c' _ m d _ (by omega) (by omega) _ W.heap.size (by exact HB1.out.size) (by exact Lib.hid (HRW'.out.2.1.below HB1.out (Nat.le_refl _))) (by exact Lib.hid (HRW.out.2.2.below HB1.out (Nat.le_refl _)))).mono ?_
  rintro e w2 ⟨A5, n5, c5, rfl, h2, k2, hb2⟩
  have H2 := Lib.hid h2
  have HB2 := Lib.hid (HB1.out.trans (hb2.mono HB1.out.size))
  have HL2 := Lib.hid hb2
  clear h2 hb2
  refine hK.out _ _ (six_keep hS0 HB2.out (by omega) (by omega)) ?_
  clear hK K hS
  have hS := six_keep hS0 HB2.out (by omega) (by omega)
  try simp only [List.getElem_toArray, List.getElem_cons_succ, List.getElem_cons_zero, Act.put, List.setIfInBounds_toArray, List.set_cons_zero, List.set_cons_succ]
  refine HT.one (i := 14) (o := _) rfl (by kernel_rfl) (by decide) (by rfl) ?_
  intro K hK
  go_simp
  refine (RTIMES_any D D' m d _ m' d' _ (by omega) (by omega) _ W.heap.size (by exact HB2.out.size) (by exact Lib.hid (HRW.out.2.2.below HB2.out (Nat.le_refl _))) (by exact Lib.hid (HRW'.out.2.2.below HB2.out (Nat.le_refl _)))).mono ?_
  rintro e w3 ⟨A6, n6, c6, rfl, h3, k3, hb3⟩
  have H3 := Lib.hid h3
  have HB3 := Lib.hid (HB2.out.trans (hb3.mono HB2.out.size))
  have HL3 := Lib.hid hb3
  clear h3 hb3
  refine hK.out _ _ (six_keep hS0 HB3.out (by omega) (by omega)) ?_
  clear hK K hS
  have hS := six_keep hS0 HB3.out (by omega) (by omega)
  try simp only [List.getElem_toArray, List.getElem_cons_succ, List.getElem_cons_zero, Act.put, List.setIfInBounds_toArray, List.set_cons_zero, List.set_cons_succ]
  refine HT.take (i := 15) (oi := _) (v := ?_) rfl (by kernel_rfl) (by kernel_rfl) (by decide) (fun _ _ _ h => h) (Or.inl ⟨by rfl, ?_⟩) hS ?_
  rotate_left
  · intro wz
    go_simp
    try with_reducible rfl
  simp only [List.getElem_toArray, List.getElem_cons_succ, List.getElem_cons_zero, Act.put, List.setIfInBounds_toArray, List.set_cons_zero, List.set_cons_succ]
  refine HT.take (i := 16) (oi := _) (v := ?_) rfl (by kernel_rfl) (by kernel_rfl) (by decide) (fun _ _ _ h => h) (Or.inl ⟨by rfl, ?_⟩) hS ?_
  rotate_left
  · intro wz
    go_simp
    try with_reducible rfl
  simp only [List.getElem_toArray, List.getElem_cons_succ, List.getElem_cons_zero, Act.put, List.setIfInBounds_toArray, List.set_cons_zero, List.set_cons_succ]
  refine HT.take (i := 17) (oi := _) (v := ?_) rfl (by kernel_rfl) (by kernel_rfl) (by decide) (fun _ _ _ h => h) (Or.inl ⟨by rfl, ?_⟩) hS ?_
  rotate_left
  · intro wz
    go_simp
    try with_reducible rfl
  simp only [List.getElem_toArray, List.getElem_cons_succ, List.getElem_cons_zero, Act.put, List.setIfInBounds_toArray, List.set_cons_zero, List.set_cons_succ]
  obtain ⟨x0, x1, x2, y0, y1, y2⟩ := hS
  have hS := x0
  refine HT.done (by kernel_rfl) ?_
  clear hS
  simp only [List.drop_succ_cons, List.drop_zero]
  have H4 := Lib.hid (H1.out.to (HL2.out.trans (HL3.out.mono HL2.out.size)) (Nat.le_refl _) (Nat.le_trans HL2.out.size HL3.out.size))
  have H5 := Lib.hid (H2.out.to HL3.out (Nat.le_refl _) HL3.out.size)
  have H6 := H3
  have HHR := Lib.hid ((HB3.out.block (gx + 1 + 1) hgw).trans HHR.out)
  have hgw := Nat.lt_of_lt_of_le hgw HB3.out.size
  have HBX := Lib.hid (HBX.out.trans (HB3.out.mono HBX0.out))
  have HBX0 := Lib.hid HBX.out.size
  clear H1 H2 H3 HB1 HB2 HB3 HL2 HL3 hS0 HHW HSW HRW HRW'
  obtain ⟨W, rfl⟩ : ∃ Wx : World, Wx = w3 := ⟨_, rfl⟩
  by_cases hs : neg = neg'
  · have HQ := Lib.hid (rplus_same q r (by rw [← HN1.out, ← HN2.out]; exact hs))
    rw [← HN1.out] at HQ
    have hnn : (neg == neg') = true := by simpa using hs
    clear hs
    go_upto_region 3 with (fail)
    obtain ⟨W, rfl⟩ : ∃ Wx : World, Wx = W := ⟨_, rfl⟩
    refine wp_region_text 7 (fun x => x.cell? ⟨gx, 0, none⟩ = some (.bool neg) ∧ x.cell? ⟨gx, 1, none⟩ = some (.slice A n c) ∧ x.cell? ⟨gx, 2, none⟩ = some (.slice D m d) ∧ x.cell? ⟨gx + 1, 0, none⟩ = some (.bool neg') ∧ x.cell? ⟨gx + 1, 1, none⟩ = some (.slice A' n' c') ∧ x.cell? ⟨gx + 1, 2, none⟩ = some (.slice D' m' d')) (by kernel_rfl) (by kernel_rfl) ?_
    have hS : W.drew.cell? ⟨gx, 0, none⟩ = some (.bool neg) ∧ W.drew.cell? ⟨gx, 1, none⟩ = some (.slice A n c) ∧ W.drew.cell? ⟨gx, 2, none⟩ = some (.slice D m d) ∧ W.drew.cell? ⟨gx + 1, 0, none⟩ = some (.bool neg') ∧ W.drew.cell? ⟨gx + 1, 1, none⟩ = some (.slice A' n' c') ∧ W.drew.cell? ⟨gx + 1, 2, none⟩ = some (.slice D' m' d') := ⟨x0, x1, x2, y0, y1, y2⟩
    have hS0 := And.intro x0 (And.intro x1 (And.intro x2 (And.intro y0 (And.intro y1 y2))))
    refine HT.take (i := 0) (oi := _) (v := ?_) rfl (by kernel_rfl) (by kernel_rfl) (by decide) (fun _ _ _ h => h) (Or.inl ⟨by rfl, ?_⟩) hS ?_
    rotate_left
    · intro wz
      go_simp
      try with_reducible rfl
    simp only [List.getElem_toArray, List.getElem_cons_succ, List.getElem_cons_zero, Act.put, List.setIfInBounds_toArray, List.set_cons_zero, List.set_cons_succ]
    refine HT.load (i := 1) (oi := _) (v := ?_) rfl (by kernel_rfl) (by kernel_rfl) (by decide) (fun _ _ _ h => h) (by kernel_rfl) (Or.inl ⟨by rfl, ?_⟩) hS ?_
    rotate_left
    · intro wz hwz
      try dsimp only at hwz
      go_simp
      try with_reducible rfl
    simp only [List.getElem_toArray, List.getElem_cons_succ, List.getElem_cons_zero, Act.put, List.setIfInBounds_toArray, List.set_cons_zero, List.set_cons_succ]
    refine HT.take (i := 2) (oi := _) (v := ?_) rfl (by kernel_rfl) (by kernel_rfl) (by decide) (fun _ _ _ h => h) (Or.inl ⟨by rfl, ?_⟩) hS ?_
    rotate_left
    · intro wz
      go_simp
      try with_reducible rfl
    simp only [List.getElem_toArray, List.getElem_cons_succ, List.getElem_cons_zero, Act.put, List.setIfInBounds_toArray, List.set_cons_zero, List.set_cons_succ]
    refine HT.take (i := 3) (oi := _) (v := ?_) rfl (by kernel_rfl) (by kernel_rfl) (by decide) (fun _ _ _ h => h) (Or.inl ⟨by rfl, ?_⟩) hS ?_
    rotate_left
    · intro wz
      go_simp
      try with_reducible rfl
    simp only [List.getElem_toArray, List.getElem_cons_succ, List.getElem_cons_zero, Act.put, List.setIfInBounds_toArray, List.set_cons_zero, List.set_cons_succ]
    refine HT.take (i := 5) (oi := _) (v := ?_) rfl (by kernel_rfl) (by kernel_rfl) (by decide) (fun _ _ _ h => h) (Or.inl ⟨by rfl, ?_⟩) hS ?_
    rotate_left
    · intro wz
      go_simp
      try with_reducible rfl
    simp only [List.getElem_toArray, List.getElem_cons_succ, List.getElem_cons_zero, Act.put, List.setIfInBounds_toArray, List.set_cons_zero, List.set_cons_succ]
    refine HT.one (i := 4) (o := _) rfl (by kernel_rfl) (by decide) (by rfl) ?_
    intro K hK
    go_simp
    refine (RADD_any A4 A5 n4 c4 _ n5 c5 _ (by omega) (by omega) _ W.heap.size (by exact Nat.le_refl _) (by exact H4) (by exact H5)).mono ?_
    rintro e w1 ⟨A1, n1, c1, rfl, h1, k1, hb1⟩
    replace hb1 : Below W.heap.size W w1 := below_undrew hb1
    have H1 := Lib.hid h1
    have HB1 := Lib.hid hb1
    clear h1 hb1
    refine hK.out _ _ (six_keep hS0 HB1.out (by omega) (by omega)) ?_
    clear hK K hS
    have hS := six_keep hS0 HB1.out (by omega) (by omega)
    try simp only [List.getElem_toArray, List.getElem_cons_succ, List.getElem_cons_zero, Act.put, List.setIfInBounds_toArray, List.set_cons_zero, List.set_cons_succ]
    refine HT.one (i := 6) (o := _) rfl (by kernel_rfl) (by decide) (by rfl) ?_
    intro K hK
    go_simp
    refine (RLOWEST_any neg A1 _ n1 c1 _ n6 c6 _ (by omega) (by omega) HZ.out _ w1.heap.size (Nat.le_refl _) H1 (Lib.hid (H6.out.to HB1.out (Nat.le_refl _) HB1.out.size))).mono ?_
    rintro e w2 ⟨ng3, A3, n3, c3, A7, n7, c7, rfl, h2, k3, k4, hb2⟩
    have H2 := Lib.hid h2
    have HB2 := Lib.hid (HB1.out.trans (hb2.mono HB1.out.size))
    have HL2 := Lib.hid hb2
    clear h2 hb2
    refine hK.out _ _ (six_keep hS0 HB2.out (by omega) (by omega)) ?_
    clear hK K hS
    have hS := six_keep hS0 HB2.out (by omega) (by omega)
    try simp only [List.getElem_toArray, List.getElem_cons_succ, List.getElem_cons_zero, Act.put, List.setIfInBounds_toArray, List.set_cons_zero, List.set_cons_succ]
    have hhx := (HB2.out.block (gx + 1 + 1) hgw).trans HHR.out
    obtain ⟨hr0, hr1, hr2, hf0, hf1, hf2⟩ := three_cells hhx
    have HHX := Lib.hid hhx
    clear hhx
    refine HT.done (by kernel_rfl) ?_
    clear hS
    simp only [List.drop_succ_cons, List.drop_zero]
    go_wp2_with fail
    rw [HQ.out] at H2
    exact end_rnum rfl rfl rfl hr0 hr1 hr2 (outR_set (q := q + r) H2.out.1 (by have := HGX.out; omega) ⟨_, _, HHX.out⟩ H2.out.2.1 H2.out.2.2 (HBX.out.trans (HB2.out.mono HBX0.out)) (by omega) (by omega))
  · have hnn : (neg == neg') = false := by simpa using hs
    have HDD : Hid (decide (q.num < 0) ≠ decide (r.num < 0)) := by rw [← HN1.out, ← HN2.out]; exact hs
    clear hs
    obtain ⟨kc, hkc⟩ : ∃ kc, cmpN (q.num.natAbs * r.den) (r.num.natAbs * q.den) = kc := ⟨_, rfl⟩
    have HKC := Lib.hid hkc
    clear hkc
    go_wp2_with fail
    refine (RCMP_any A4 A5 n4 c4 _ n5 c5 _ _ W.heap.size H4 H5).mono ?_
    rintro e w0 ⟨rfl, hb0⟩
    rw [HKC.out]
    obtain ⟨x0, x1, x2, y0, y1, y2⟩ := six_keep (And.intro x0 (And.intro x1 (And.intro x2 (And.intro y0 (And.intro y1 y2))))) hb0 (by omega) (by omega)
    have HHR := Lib.hid ((hb0.block (gx + 1 + 1) hgw).trans HHR.out)
    have hgw := Nat.lt_of_lt_of_le hgw hb0.size
    have H4 := Lib.hid (H4.out.to hb0 (Nat.le_refl _) hb0.size)
    have H5 := Lib.hid (H5.out.to hb0 (Nat.le_refl _) hb0.size)
    have H6 := Lib.hid (H6.out.to hb0 (Nat.le_refl _) hb0.size)
    have HBX := Lib.hid (HBX.out.trans (hb0.mono HBX0.out))
    have HBX0 := Lib.hid HBX.out.size
    clear hb0
    obtain ⟨W, rfl⟩ : ∃ Wx : World, Wx = w0 := ⟨_, rfl⟩
    by_cases hle : r.num.natAbs * q.den ≤ q.num.natAbs * r.den
    · have hk9 : 0 ≤ kc := by
        rw [← HKC.out]; unfold cmpN
        rw [if_neg (by omega)]; split <;> omega
      have HQ := Lib.hid (rplus_ge q r HDD.out hle)
      rw [← HN1.out] at HQ
      have HLE := Lib.hid hle
      clear hle
      go_upto_region 5 with (fail)
      obtain ⟨W, rfl⟩ : ∃ Wx : World, Wx = W := ⟨_, rfl⟩
      refine wp_region_text 7 (fun x => x.cell? ⟨gx, 0, none⟩ = some (.bool neg) ∧ x.cell? ⟨gx, 1, none⟩ = some (.slice A n c) ∧ x.cell? ⟨gx, 2, none⟩ = some (.slice D m d) ∧ x.cell? ⟨gx + 1, 0, none⟩ = some (.bool neg') ∧ x.cell? ⟨gx + 1, 1, none⟩ = some (.slice A' n' c') ∧ x.cell? ⟨gx + 1, 2, none⟩ = some (.slice D' m' d')) (by kernel_rfl) (by kernel_rfl) ?_
      have hS : W.drew.cell? ⟨gx, 0, none⟩ = some (.bool neg) ∧ W.drew.cell? ⟨gx, 1, none⟩ = some (.slice A n c) ∧ W.drew.cell? ⟨gx, 2, none⟩ = some (.slice D m d) ∧ W.drew.cell? ⟨gx + 1, 0, none⟩ = some (.bool neg') ∧ W.drew.cell? ⟨gx + 1, 1, none⟩ = some (.slice A' n' c') ∧ W.drew.cell? ⟨gx + 1, 2, none⟩ = some (.slice D' m' d') := ⟨x0, x1, x2, y0, y1, y2⟩
      have hS0 := And.intro x0 (And.intro x1 (And.intro x2 (And.intro y0 (And.intro y1 y2))))
      refine HT.take (i := 0) (oi := _) (v := ?_) rfl (by kernel_rfl) (by kernel_rfl) (by decide) (fun _ _ _ h => h) (Or.inl ⟨by rfl, ?_⟩) hS ?_
      rotate_left
      · intro wz
        go_simp
        try with_reducible rfl
      simp only [List.getElem_toArray, List.getElem_cons_succ, List.getElem_cons_zero, Act.put, List.setIfInBounds_toArray, List.set_cons_zero, List.set_cons_succ]
      refine HT.load (i := 1) (oi := _) (v := ?_) rfl (by kernel_rfl) (by kernel_rfl) (by decide) (fun _ _ _ h => h) (by kernel_rfl) (Or.inl ⟨by rfl, ?_⟩) hS ?_
      rotate_left
      · intro wz hwz
        try dsimp only at hwz
        go_simp
        try with_reducible rfl
      simp only [List.getElem_toArray, List.getElem_cons_succ, List.getElem_cons_zero, Act.put, List.setIfInBounds_toArray, List.set_cons_zero, List.set_cons_succ]
      refine HT.take (i := 2) (oi := _) (v := ?_) rfl (by kernel_rfl) (by kernel_rfl) (by decide) (fun _ _ _ h => h) (Or.inl ⟨by rfl, ?_⟩) hS ?_
      rotate_left
      · intro wz
        go_simp
        try with_reducible rfl
      simp only [List.getElem_toArray, List.getElem_cons_succ, List.getElem_cons_zero, Act.put, List.setIfInBounds_toArray, List.set_cons_zero, List.set_cons_succ]
      refine HT.take (i := 3) (oi := _) (v := ?_) rfl (by kernel_rfl) (by kernel_rfl) (by decide) (fun _ _ _ h => h) (Or.inl ⟨by rfl, ?_⟩) hS ?_
      rotate_left
      · intro wz
        go_simp
        try with_reducible rfl
      simp only [List.getElem_toArray, List.getElem_cons_succ, List.getElem_cons_zero, Act.put, List.setIfInBounds_toArray, List.set_cons_zero, List.set_cons_succ]
      refine HT.take (i := 5) (oi := _) (v := ?_) rfl (by kernel_rfl) (by kernel_rfl) (by decide) (fun _ _ _ h => h) (Or.inl ⟨by rfl, ?_⟩) hS ?_
      rotate_left
      · intro wz
        go_simp
        try with_reducible rfl
      simp only [List.getElem_toArray, List.getElem_cons_succ, List.getElem_cons_zero, Act.put, List.setIfInBounds_toArray, List.set_cons_zero, List.set_cons_succ]
      refine HT.one (i := 4) (o := _) rfl (by kernel_rfl) (by decide) (by rfl) ?_
      intro K hK
      go_simp
      refine (RLESS_any A4 A5 n4 c4 _ n5 c5 _ (by omega) HLE.out _ W.heap.size (by exact Nat.le_refl _) (by exact H4) (by exact H5)).mono ?_
      rintro e w1 ⟨A1, n1, c1, rfl, h1, k1, hb1⟩
      replace hb1 : Below W.heap.size W w1 := below_undrew hb1
      have H1 := Lib.hid h1
      have HB1 := Lib.hid hb1
      clear h1 hb1
      refine hK.out _ _ (six_keep hS0 HB1.out (by omega) (by omega)) ?_
      clear hK K hS
      have hS := six_keep hS0 HB1.out (by omega) (by omega)
      try simp only [List.getElem_toArray, List.getElem_cons_succ, List.getElem_cons_zero, Act.put, List.setIfInBounds_toArray, List.set_cons_zero, List.set_cons_succ]
      refine HT.one (i := 6) (o := _) rfl (by kernel_rfl) (by decide) (by rfl) ?_
      intro K hK
      go_simp
      refine (RLOWEST_any neg A1 _ n1 c1 _ n6 c6 _ (by omega) (by omega) HZ.out _ w1.heap.size (Nat.le_refl _) H1 (Lib.hid (H6.out.to HB1.out (Nat.le_refl _) HB1.out.size))).mono ?_
      rintro e w2 ⟨ng3, A3, n3, c3, A7, n7, c7, rfl, h2, k3, k4, hb2⟩
      have H2 := Lib.hid h2
      have HB2 := Lib.hid (HB1.out.trans (hb2.mono HB1.out.size))
      have HL2 := Lib.hid hb2
      clear h2 hb2
      refine hK.out _ _ (six_keep hS0 HB2.out (by omega) (by omega)) ?_
      clear hK K hS
      have hS := six_keep hS0 HB2.out (by omega) (by omega)
      try simp only [List.getElem_toArray, List.getElem_cons_succ, List.getElem_cons_zero, Act.put, List.setIfInBounds_toArray, List.set_cons_zero, List.set_cons_succ]
      have hhx := (HB2.out.block (gx + 1 + 1) hgw).trans HHR.out
      obtain ⟨hr0, hr1, hr2, hf0, hf1, hf2⟩ := three_cells hhx
      have HHX := Lib.hid hhx
      clear hhx
      refine HT.done (by kernel_rfl) ?_
      clear hS
      simp only [List.drop_succ_cons, List.drop_zero]
      go_wp2_with fail
      rw [HQ.out] at H2
      exact end_rnum rfl rfl rfl hr0 hr1 hr2 (outR_set (q := q + r) H2.out.1 (by have := HGX.out; omega) ⟨_, _, HHX.out⟩ H2.out.2.1 H2.out.2.2 (HBX.out.trans (HB2.out.mono HBX0.out)) (by omega) (by omega))
    · have hk9 : kc < 0 := by
        rw [← HKC.out]; unfold cmpN
        rw [if_pos (by omega)]; omega
      have HLE := Lib.hid (show q.num.natAbs * r.den ≤ r.num.natAbs * q.den by omega)
      have HQ := Lib.hid (rplus_lt q r HDD.out HLE.out)
      rw [← HN2.out] at HQ
      clear hle
      go_upto_region 6 with (fail)
      obtain ⟨W, rfl⟩ : ∃ Wx : World, Wx = W := ⟨_, rfl⟩
      refine wp_region_text 7 (fun x => x.cell? ⟨gx, 0, none⟩ = some (.bool neg) ∧ x.cell? ⟨gx, 1, none⟩ = some (.slice A n c) ∧ x.cell? ⟨gx, 2, none⟩ = some (.slice D m d) ∧ x.cell? ⟨gx + 1, 0, none⟩ = some (.bool neg') ∧ x.cell? ⟨gx + 1, 1, none⟩ = some (.slice A' n' c') ∧ x.cell? ⟨gx + 1, 2, none⟩ = some (.slice D' m' d')) (by kernel_rfl) (by kernel_rfl) ?_
      have hS : W.drew.cell? ⟨gx, 0, none⟩ = some (.bool neg) ∧ W.drew.cell? ⟨gx, 1, none⟩ = some (.slice A n c) ∧ W.drew.cell? ⟨gx, 2, none⟩ = some (.slice D m d) ∧ W.drew.cell? ⟨gx + 1, 0, none⟩ = some (.bool neg') ∧ W.drew.cell? ⟨gx + 1, 1, none⟩ = some (.slice A' n' c') ∧ W.drew.cell? ⟨gx + 1, 2, none⟩ = some (.slice D' m' d') := ⟨x0, x1, x2, y0, y1, y2⟩
      have hS0 := And.intro x0 (And.intro x1 (And.intro x2 (And.intro y0 (And.intro y1 y2))))
      refine HT.take (i := 0) (oi := _) (v := ?_) rfl (by kernel_rfl) (by kernel_rfl) (by decide) (fun _ _ _ h => h) (Or.inl ⟨by rfl, ?_⟩) hS ?_
      rotate_left
      · intro wz
        go_simp
        try with_reducible rfl
      simp only [List.getElem_toArray, List.getElem_cons_succ, List.getElem_cons_zero, Act.put, List.setIfInBounds_toArray, List.set_cons_zero, List.set_cons_succ]
      refine HT.load (i := 1) (oi := _) (v := ?_) rfl (by kernel_rfl) (by kernel_rfl) (by decide) (fun _ _ _ h => h) (by kernel_rfl) (Or.inl ⟨by rfl, ?_⟩) hS ?_
      rotate_left
      · intro wz hwz
        try dsimp only at hwz
        go_simp
        try with_reducible rfl
      simp only [List.getElem_toArray, List.getElem_cons_succ, List.getElem_cons_zero, Act.put, List.setIfInBounds_toArray, List.set_cons_zero, List.set_cons_succ]
      refine HT.take (i := 2) (oi := _) (v := ?_) rfl (by kernel_rfl) (by kernel_rfl) (by decide) (fun _ _ _ h => h) (Or.inl ⟨by rfl, ?_⟩) hS ?_
      rotate_left
      · intro wz
        go_simp
        try with_reducible rfl
      simp only [List.getElem_toArray, List.getElem_cons_succ, List.getElem_cons_zero, Act.put, List.setIfInBounds_toArray, List.set_cons_zero, List.set_cons_succ]
      refine HT.take (i := 3) (oi := _) (v := ?_) rfl (by kernel_rfl) (by kernel_rfl) (by decide) (fun _ _ _ h => h) (Or.inl ⟨by rfl, ?_⟩) hS ?_
      rotate_left
      · intro wz
        go_simp
        try with_reducible rfl
      simp only [List.getElem_toArray, List.getElem_cons_succ, List.getElem_cons_zero, Act.put, List.setIfInBounds_toArray, List.set_cons_zero, List.set_cons_succ]
      refine HT.take (i := 5) (oi := _) (v := ?_) rfl (by kernel_rfl) (by kernel_rfl) (by decide) (fun _ _ _ h => h) (Or.inl ⟨by rfl, ?_⟩) hS ?_
      rotate_left
      · intro wz
        go_simp
        try with_reducible rfl
      simp only [List.getElem_toArray, List.getElem_cons_succ, List.getElem_cons_zero, Act.put, List.setIfInBounds_toArray, List.set_cons_zero, List.set_cons_succ]
      refine HT.one (i := 4) (o := _) rfl (by kernel_rfl) (by decide) (by rfl) ?_
      intro K hK
      go_simp
      refine (RLESS_any A5 A4 n5 c5 _ n4 c4 _ (by omega) HLE.out _ W.heap.size (by exact Nat.le_refl _) (by exact H5) (by exact H4)).mono ?_
      rintro e w1 ⟨A1, n1, c1, rfl, h1, k1, hb1⟩
      replace hb1 : Below W.heap.size W w1 := below_undrew hb1
      have H1 := Lib.hid h1
      have HB1 := Lib.hid hb1
      clear h1 hb1
      refine hK.out _ _ (six_keep hS0 HB1.out (by omega) (by omega)) ?_
      clear hK K hS
      have hS := six_keep hS0 HB1.out (by omega) (by omega)
      try simp only [List.getElem_toArray, List.getElem_cons_succ, List.getElem_cons_zero, Act.put, List.setIfInBounds_toArray, List.set_cons_zero, List.set_cons_succ]
      refine HT.one (i := 6) (o := _) rfl (by kernel_rfl) (by decide) (by rfl) ?_
      intro K hK
      go_simp
      refine (RLOWEST_any neg' A1 _ n1 c1 _ n6 c6 _ (by omega) (by omega) HZ.out _ w1.heap.size (Nat.le_refl _) H1 (Lib.hid (H6.out.to HB1.out (Nat.le_refl _) HB1.out.size))).mono ?_
      rintro e w2 ⟨ng3, A3, n3, c3, A7, n7, c7, rfl, h2, k3, k4, hb2⟩
      have H2 := Lib.hid h2
      have HB2 := Lib.hid (HB1.out.trans (hb2.mono HB1.out.size))
      have HL2 := Lib.hid hb2
      clear h2 hb2
      refine hK.out _ _ (six_keep hS0 HB2.out (by omega) (by omega)) ?_
      clear hK K hS
      have hS := six_keep hS0 HB2.out (by omega) (by omega)
      try simp only [List.getElem_toArray, List.getElem_cons_succ, List.getElem_cons_zero, Act.put, List.setIfInBounds_toArray, List.set_cons_zero, List.set_cons_succ]
      have hhx := (HB2.out.block (gx + 1 + 1) hgw).trans HHR.out
      obtain ⟨hr0, hr1, hr2, hf0, hf1, hf2⟩ := three_cells hhx
      have HHX := Lib.hid hhx
      clear hhx
      refine HT.done (by kernel_rfl) ?_
      clear hS
      simp only [List.drop_succ_cons, List.drop_zero]
      go_wp2_with fail
      rw [HQ.out] at H2
      exact end_rnum rfl rfl rfl hr0 hr1 hr2 (outR_set (q := q + r) H2.out.1 (by have := HGX.out; omega) ⟨_, _, HHX.out⟩ H2.out.2.1 H2.out.2.2 (HBX.out.trans (HB2.out.mono HBX0.out)) (by omega) (by omega))
end Go.Proofs.YtocbogdjlapogaaGreatDoor
