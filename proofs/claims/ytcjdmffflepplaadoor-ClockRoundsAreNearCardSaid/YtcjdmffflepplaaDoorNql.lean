/- num.Rat: Lowest, Ratio; Frac. -/
import Derived.Test.YtcjdmffflepplaaDoorNqt
set_option linter.unusedSimpArgs false
set_option linter.unusedVariables false
namespace Go.Proofs.YtcjdmffflepplaaDoor
open Go.RowKit Go.Dw
theorem run_field1 (ng : Bool) (A1 A2 : Option Addr) (n1 c1 n2 c2 : Nat) (W : World) : (Instr.field 46 (.agg #[.bool ng, .slice A1 n1 c1, .slice A2 n2 c2]) 1).run Tryd.prog W = .ok (.slice A2 n2 c2) W := by
  kernel_rfl
set_option maxRecDepth 100000 in
set_option maxHeartbeats 2000000 in
theorem QLOWEST_any (neg : Bool) (A D : Option Addr) (n c m d : Nat) (z : Int) (x : Nat) (hx : 0 < x) (hn : n ≤ 100000000) (hm : m ≤ 100000000) (w : World) (B : Nat) (hB : B ≤ w.heap.size) (hh : Hid (RawAt w B neg A n c D m d z x)) :
    Calls Tryd.prog 32 #[.agg #[.bool neg, .slice A n c, .slice D m d]] w fun e w' => e = .returned (.bool (decide (Nat.gcd z.natAbs x = 1))) ∧ Below w.heap.size w w' := by
  obtain ⟨W, gx, hW, hgx, HHW, HBW, HSW⟩ := cell_new w 46 #[.bool neg, .slice A n c, .slice D m d]
  have HGX := Lib.hid hgx
  obtain ⟨x0, x1, x2, _, _, _⟩ := three_cells HHW.out
  have hgw := blk_lt HHW.out
  have HSZ := Lib.hid HBW.out.size
  have HRW : Hid (RawAt W W.heap.size neg A n c D m d z x) := ⟨hh.out.1.to HBW.out hB (Nat.le_trans hB HBW.out.size), hh.out.2.to HBW.out hB (Nat.le_trans hB HBW.out.size)⟩
  have HF := Lib.hid (mkRat_fields z x hx)
  have HX := Lib.hid hx
  have HEQ : Hid (cmpN (mkRat z x).den x = 0 ↔ Nat.gcd z.natAbs x = 1) := by
    show _ ↔ _
    have hg : 0 < Nat.gcd z.natAbs x := Nat.gcd_pos_of_pos_right _ hx
    constructor
    · intro h
      have h1 : (mkRat z x).den = x := by
        rcases Nat.lt_trichotomy (mkRat z x).den x with h2 | h2 | h2
        · rw [cmpN_lt h2] at h; exact absurd h (by decide)
        · exact h2
        · rw [cmpN_gt h2] at h; exact absurd h (by decide)
      rw [HF.out.2] at h1
      have h2 := Nat.div_mul_cancel (Nat.gcd_dvd_right z.natAbs x)
      rw [h1] at h2
      have h3 : x * Nat.gcd z.natAbs x = x * 1 := by rw [h2, Nat.mul_one]
      exact Nat.eq_of_mul_eq_mul_left hx h3
    · intro h
      exact cmpN_eq (by rw [HF.out.2, h, Nat.div_one])
  obtain ⟨k, hk⟩ : ∃ k, cmpN (mkRat z x).den x = k := ⟨_, rfl⟩
  rw [hk] at HEQ
  have HK := Lib.hid hk
  clear hk
  go_enter Tryd.func32, Tryd.ntmps32
  go_upto_region 1 with (fail)
  rw [← hW, ← hgx]
  clear hW hgx
  obtain ⟨W, rfl⟩ : ∃ Wx : World, Wx = W := ⟨_, rfl⟩
  refine wp_region_text 10 (fun x => x.cell? ⟨gx, 0, none⟩ = some (.bool neg) ∧ x.cell? ⟨gx, 1, none⟩ = some (.slice A n c) ∧ x.cell? ⟨gx, 2, none⟩ = some (.slice D m d)) (by kernel_rfl) (by kernel_rfl) ?_
  have hS : W.drew.cell? ⟨gx, 0, none⟩ = some (.bool neg) ∧ W.drew.cell? ⟨gx, 1, none⟩ = some (.slice A n c) ∧ W.drew.cell? ⟨gx, 2, none⟩ = some (.slice D m d) := ⟨x0, x1, x2⟩
  have hS0 := And.intro x0 (And.intro x1 x2)
  refine HT.take (i := 0) (oi := _) (v := ?_) rfl (by kernel_rfl) (by kernel_rfl) (by decide) (fun _ _ _ h => h) (Or.inl ⟨by rfl, ?_⟩) hS ?_
  rotate_left
  · intro wz
    go_simp
    try with_reducible rfl
  simp only [List.getElem_toArray, List.getElem_cons_succ, List.getElem_cons_zero, Act.put, List.setIfInBounds_toArray, List.set_cons_zero, List.set_cons_succ]
  refine HT.load (i := 1) (oi := _) (v := ?_) rfl (by kernel_rfl) (by kernel_rfl) (by decide) (fun _ _ _ h => h) (by kernel_rfl) (Or.inl ⟨by rfl, ?_⟩) hS ?_
  rotate_left
  · intro wz hwz
    try dsimp only at hwz
    go_simp
    try with_reducible rfl
  simp only [List.getElem_toArray, List.getElem_cons_succ, List.getElem_cons_zero, Act.put, List.setIfInBounds_toArray, List.set_cons_zero, List.set_cons_succ]
  refine HT.take (i := 2) (oi := _) (v := ?_) rfl (by kernel_rfl) (by kernel_rfl) (by decide) (fun _ _ _ h => h) (Or.inl ⟨by rfl, ?_⟩) hS ?_
  rotate_left
  · intro wz
    go_simp
    try with_reducible rfl
  simp only [List.getElem_toArray, List.getElem_cons_succ, List.getElem_cons_zero, Act.put, List.setIfInBounds_toArray, List.set_cons_zero, List.set_cons_succ]
  refine HT.load (i := 3) (oi := _) (v := ?_) rfl (by kernel_rfl) (by kernel_rfl) (by decide) (fun _ _ _ h => h) (by kernel_rfl) (Or.inl ⟨by rfl, ?_⟩) hS ?_
  rotate_left
  · intro wz hwz
    try dsimp only at hwz
    go_simp
    try with_reducible rfl
  simp only [List.getElem_toArray, List.getElem_cons_succ, List.getElem_cons_zero, Act.put, List.setIfInBounds_toArray, List.set_cons_zero, List.set_cons_succ]
  refine HT.take (i := 6) (oi := _) (v := ?_) rfl (by kernel_rfl) (by kernel_rfl) (by decide) (fun _ _ _ h => h) (Or.inl ⟨by rfl, ?_⟩) hS ?_
  rotate_left
  · intro wz
    go_simp
    try with_reducible rfl
  simp only [List.getElem_toArray, List.getElem_cons_succ, List.getElem_cons_zero, Act.put, List.setIfInBounds_toArray, List.set_cons_zero, List.set_cons_succ]
  refine HT.load (i := 7) (oi := _) (v := ?_) rfl (by kernel_rfl) (by kernel_rfl) (by decide) (fun _ _ _ h => h) (by kernel_rfl) (Or.inl ⟨by rfl, ?_⟩) hS ?_
  rotate_left
  · intro wz hwz
    try dsimp only at hwz
    go_simp
    try with_reducible rfl
  simp only [List.getElem_toArray, List.getElem_cons_succ, List.getElem_cons_zero, Act.put, List.setIfInBounds_toArray, List.set_cons_zero, List.set_cons_succ]
  refine HT.one (i := 4) (o := _) rfl (by kernel_rfl) (by decide) (by rfl) ?_
  intro K hK
  go_simp
  refine (QOVER_any neg A D n c m d x z hn hm hx _ W.heap.size (by exact Nat.le_refl _) (by exact Lib.hid HRW.out.1) (by exact Lib.hid HRW.out.2)).mono ?_
  rintro e w1 ⟨ng1, A1, n1, c1, A2, n2, c2, rfl, h1, k1, k2, hb1⟩
  replace hb1 : Below W.heap.size W w1 := below_undrew hb1
  have H1 := Lib.hid h1
  have HB1 := Lib.hid hb1
  clear h1 hb1
  refine hK.out _ _ (three_keep hS0 HB1.out (by dsimp only; omega) (by dsimp only; omega) (by dsimp only; omega)) ?_
  clear hK K hS
  have hS := three_keep hS0 HB1.out (by dsimp only; omega) (by dsimp only; omega) (by dsimp only; omega)
  try simp only [List.getElem_toArray, List.getElem_cons_succ, List.getElem_cons_zero, Act.put, List.setIfInBounds_toArray, List.set_cons_zero, List.set_cons_succ]
  have hfd := run_field1 ng1 A1 A2 n1 c1 n2 c2
  refine HT.take (i := 5) (oi := _) (v := ?_) rfl (by kernel_rfl) (by kernel_rfl) (by decide) (fun _ _ _ h => h) (Or.inl ⟨by rfl, ?_⟩) hS ?_
  rotate_left
  · intro wz
    go_simp
    try with_reducible rfl
  simp only [List.getElem_toArray, List.getElem_cons_succ, List.getElem_cons_zero, Act.put, List.setIfInBounds_toArray, List.set_cons_zero, List.set_cons_succ]
  refine HT.one (i := 8) (o := _) rfl (by kernel_rfl) (by decide) (by rfl) ?_
  intro K hK
  go_simp
  refine (NCMP_below A2 D n2 c2 _ m d x _ w1.heap.size (Lib.hid H1.out.2) (by exact Lib.hid (HRW.out.2.to HB1.out (Nat.le_refl _) HB1.out.size))).mono ?_
  rintro e w2 ⟨rfl, hb2⟩
  rw [HK.out]
  have HB2 := Lib.hid (HB1.out.trans (hb2.mono HB1.out.size))
  clear hb2
  refine hK.out _ _ (three_keep hS0 HB2.out (by dsimp only; omega) (by dsimp only; omega) (by dsimp only; omega)) ?_
  clear hK K hS
  have hS := three_keep hS0 HB2.out (by dsimp only; omega) (by dsimp only; omega) (by dsimp only; omega)
  try simp only [List.getElem_toArray, List.getElem_cons_succ, List.getElem_cons_zero, Act.put, List.setIfInBounds_toArray, List.set_cons_zero, List.set_cons_succ]
  refine HT.take (i := 9) (oi := _) (v := ?_) rfl (by kernel_rfl) (by kernel_rfl) (by decide) (fun _ _ _ h => h) (Or.inl ⟨by rfl, ?_⟩) hS ?_
  rotate_left
  · intro wz
    go_simp
    try with_reducible rfl
  simp only [List.getElem_toArray, List.getElem_cons_succ, List.getElem_cons_zero, Act.put, List.setIfInBounds_toArray, List.set_cons_zero, List.set_cons_succ]
  refine HT.done (by kernel_rfl) ?_
  clear hS
  simp only [List.drop_succ_cons, List.drop_zero]
  go_wp2_with fail
  go_ret
  refine ⟨ret_bool ?_, HBW.out.trans (HB2.out.mono HSZ.out)⟩
  by_cases h : k = 0
  · rw [decide_eq_true (HEQ.out.1 h), h]; rfl
  · rw [decide_eq_false (fun h9 => h (HEQ.out.2 h9))]; simpa using h
/-- the digits of a quotient, and whether they are few -/
def numT (q : Rat) : List UInt8 := (if q.num < 0 then [45] else []) ++ Lib.decDigits q.num.natAbs
def fewT (q : Rat) (most : Nat) : Bool := decide ((Lib.decDigits q.num.natAbs).length ≤ most) && decide ((Lib.decDigits q.den).length ≤ most)
def ratT (q : Rat) (most : Nat) : Value := if fewT q most then .tuple #[.agg #[.string ⟨(numT q).toArray⟩, .string ⟨(Lib.decDigits q.den).toArray⟩], .bool true] else .tuple #[.agg #[.string ⟨#[]⟩, .string ⟨#[]⟩], .bool false]
set_option maxRecDepth 100000 in
set_option maxHeartbeats 2000000 in
theorem QRATIO_any (neg : Bool) (A D : Option Addr) (n c m d : Nat) (q : Rat) (most : Nat) (hmost : most ≤ 1000000000) (hn : n ≤ 1000000) (hm : m ≤ 1000000) (w : World) (B : Nat) (hB : B ≤ w.heap.size) (hh : Hid (RatAt w B neg A n c D m d q)) :
    Calls Tryd.prog 53 #[.agg #[.bool neg, .slice A n c, .slice D m d], .int .i64 most] w fun e w' => e = .returned (ratT q most) ∧ Below w.heap.size w w' := by
  obtain ⟨W, gx, hW, hgx, HHW, HBW, HSW⟩ := boxes2 w (.cells #[.bool neg, .slice A n c, .slice D m d] 46) (.cells #[.string ⟨#[]⟩, .string ⟨#[]⟩] 28)
  have HGX := Lib.hid hgx
  obtain ⟨x0, x1, x2, _, _, _⟩ := three_cells HHW.out.1
  have hgw := blk_lt HHW.out.2
  have HHR := Lib.hid HHW.out.2
  have HSZ := Lib.hid HBW.out.size
  have HRW := Lib.hid (hh.out.to HBW.out hB (by have := HSW.out; omega))
  have HNEG := Lib.hid hh.out.1.1
  go_enter Tryd.func53, Tryd.ntmps53
  go_upto_region 1 with (fail)
  rw [← hW, ← hgx]
  clear hW hgx HHW
  obtain ⟨s, hs⟩ : ∃ s : ByteArray, s = ⟨(Lib.decDigits q.num.natAbs).toArray⟩ := ⟨_, rfl⟩
  obtain ⟨t, ht⟩ : ∃ s : ByteArray, s = ⟨(Lib.decDigits q.den).toArray⟩ := ⟨_, rfl⟩
  have HSS := Lib.hid hs
  have HTT := Lib.hid ht
  have HLS : Hid (s.size = (Lib.decDigits q.num.natAbs).length) := by show _ = _; rw [hs]; simp [ByteArray.size]
  have HLT : Hid (t.size = (Lib.decDigits q.den).length) := by show _ = _; rw [ht]; simp [ByteArray.size]
  clear hs ht
  obtain ⟨W, rfl⟩ : ∃ Wx : World, Wx = W := ⟨_, rfl⟩
  refine wp_region_text 9 (fun x => x.cell? ⟨gx, 0, none⟩ = some (.bool neg) ∧ x.cell? ⟨gx, 1, none⟩ = some (.slice A n c) ∧ x.cell? ⟨gx, 2, none⟩ = some (.slice D m d)) (by kernel_rfl) (by kernel_rfl) ?_
  have hS : W.drew.cell? ⟨gx, 0, none⟩ = some (.bool neg) ∧ W.drew.cell? ⟨gx, 1, none⟩ = some (.slice A n c) ∧ W.drew.cell? ⟨gx, 2, none⟩ = some (.slice D m d) := ⟨x0, x1, x2⟩
  have hS0 := And.intro x0 (And.intro x1 x2)
  refine HT.take (i := 0) (oi := _) (v := ?_) rfl (by kernel_rfl) (by kernel_rfl) (by decide) (fun _ _ _ h => h) (Or.inl ⟨by rfl, ?_⟩) hS ?_
  rotate_left
  · intro wz
    go_simp
    try with_reducible rfl
  simp only [List.getElem_toArray, List.getElem_cons_succ, List.getElem_cons_zero, Act.put, List.setIfInBounds_toArray, List.set_cons_zero, List.set_cons_succ]
  refine HT.take (i := 1) (oi := _) (v := ?_) rfl (by kernel_rfl) (by kernel_rfl) (by decide) (fun _ _ _ h => h) (Or.inl ⟨by rfl, ?_⟩) hS ?_
  rotate_left
  · intro wz
    go_simp
    try with_reducible rfl
  simp only [List.getElem_toArray, List.getElem_cons_succ, List.getElem_cons_zero, Act.put, List.setIfInBounds_toArray, List.set_cons_zero, List.set_cons_succ]
  refine HT.load (i := 2) (oi := _) (v := ?_) rfl (by kernel_rfl) (by kernel_rfl) (by decide) (fun _ _ _ h => h) (by kernel_rfl) (Or.inl ⟨by rfl, ?_⟩) hS ?_
  rotate_left
  · intro wz hwz
    try dsimp only at hwz
    go_simp
    try with_reducible rfl
  simp only [List.getElem_toArray, List.getElem_cons_succ, List.getElem_cons_zero, Act.put, List.setIfInBounds_toArray, List.set_cons_zero, List.set_cons_succ]
  refine HT.take (i := 4) (oi := _) (v := ?_) rfl (by kernel_rfl) (by kernel_rfl) (by decide) (fun _ _ _ h => h) (Or.inl ⟨by rfl, ?_⟩) hS ?_
  rotate_left
  · intro wz
    go_simp
    try with_reducible rfl
  simp only [List.getElem_toArray, List.getElem_cons_succ, List.getElem_cons_zero, Act.put, List.setIfInBounds_toArray, List.set_cons_zero, List.set_cons_succ]
  refine HT.load (i := 5) (oi := _) (v := ?_) rfl (by kernel_rfl) (by kernel_rfl) (by decide) (fun _ _ _ h => h) (by kernel_rfl) (Or.inl ⟨by rfl, ?_⟩) hS ?_
  rotate_left
  · intro wz hwz
    try dsimp only at hwz
    go_simp
    try with_reducible rfl
  simp only [List.getElem_toArray, List.getElem_cons_succ, List.getElem_cons_zero, Act.put, List.setIfInBounds_toArray, List.set_cons_zero, List.set_cons_succ]
  refine HT.one (i := 3) (o := _) rfl (by kernel_rfl) (by decide) (by rfl) ?_
  intro K hK
  go_simp
  refine (NTEXT_any A n c _ hn _ W.heap.size (by exact Nat.le_refl _) (by exact Lib.hid HRW.out.1.2)).mono ?_
  rintro e w1 ⟨rfl, hb1⟩
  replace hb1 : Below W.heap.size W w1 := below_undrew hb1
  rw [← HSS.out]
  have HB1 := Lib.hid hb1
  clear hb1
  refine hK.out _ _ (three_keep hS0 HB1.out (by dsimp only; omega) (by dsimp only; omega) (by dsimp only; omega)) ?_
  clear hK K hS
  have hS := three_keep hS0 HB1.out (by dsimp only; omega) (by dsimp only; omega) (by dsimp only; omega)
  try simp only [List.getElem_toArray, List.getElem_cons_succ, List.getElem_cons_zero, Act.put, List.setIfInBounds_toArray, List.set_cons_zero, List.set_cons_succ]
  refine HT.one (i := 6) (o := _) rfl (by kernel_rfl) (by decide) (by rfl) ?_
  intro K hK
  go_simp
  refine (NTEXT_any D m d _ hm _ w1.heap.size (Nat.le_refl _) (by exact Lib.hid (HRW.out.2.to HB1.out (Nat.le_refl _) HB1.out.size))).mono ?_
  rintro e w2 ⟨rfl, hb2⟩
  rw [← HTT.out]
  have HB2 := Lib.hid (HB1.out.trans (hb2.mono HB1.out.size))
  clear hb2
  refine hK.out _ _ (three_keep hS0 HB2.out (by dsimp only; omega) (by dsimp only; omega) (by dsimp only; omega)) ?_
  clear hK K hS
  have hS := three_keep hS0 HB2.out (by dsimp only; omega) (by dsimp only; omega) (by dsimp only; omega)
  try simp only [List.getElem_toArray, List.getElem_cons_succ, List.getElem_cons_zero, Act.put, List.setIfInBounds_toArray, List.set_cons_zero, List.set_cons_succ]
  refine HT.take (i := 7) (oi := _) (v := ?_) rfl (by kernel_rfl) (by kernel_rfl) (by decide) (fun _ _ _ h => h) (Or.inl ⟨by rfl, ?_⟩) hS ?_
  rotate_left
  · intro wz
    go_simp
    try with_reducible rfl
  simp only [List.getElem_toArray, List.getElem_cons_succ, List.getElem_cons_zero, Act.put, List.setIfInBounds_toArray, List.set_cons_zero, List.set_cons_succ]
  refine HT.take (i := 8) (oi := _) (v := ?_) rfl (by kernel_rfl) (by kernel_rfl) (by decide) (fun _ _ _ h => h) (Or.inl ⟨by rfl, ?_⟩) hS ?_
  rotate_left
  · intro wz
    go_simp
    try with_reducible rfl
  simp only [List.getElem_toArray, List.getElem_cons_succ, List.getElem_cons_zero, Act.put, List.setIfInBounds_toArray, List.set_cons_zero, List.set_cons_succ]
  have hhx := (HB2.out.block (gx + 1) hgw).trans HHR.out
  obtain ⟨hr0, hr1, hf0, hf1⟩ := two_cells hhx
  have HHX := Lib.hid hhx
  obtain ⟨z0, z1, z2⟩ := hS
  have hS := z0
  clear hhx z1 z2
  refine HT.done (by kernel_rfl) ?_
  clear hS
  simp only [List.drop_succ_cons, List.drop_zero]
  by_cases hls : most < s.size
  · have HFEW : Hid (fewT q most = false) := by show _ = _; unfold fewT; rw [decide_eq_false (by have := HLS.out; omega)]; rfl
    go_wp2_with fail
    refine end_ratio rfl rfl rfl hr0 hr1 ⟨?_, set2_below' (HBW.out.trans (HB2.out.mono HSZ.out)) (by have := HGX.out; omega)⟩
    unfold ratT
    rw [HFEW.out, if_neg (by simp)]
    rfl
  by_cases hlt : most < t.size
  · have HFEW : Hid (fewT q most = false) := by show _ = _; unfold fewT; rw [decide_eq_false (p := (Lib.decDigits q.den).length ≤ most) (by have := HLT.out; omega), Bool.and_false]
    go_wp2_with fail
    refine end_ratio rfl rfl rfl hr0 hr1 ⟨?_, set2_below' (HBW.out.trans (HB2.out.mono HSZ.out)) (by have := HGX.out; omega)⟩
    unfold ratT
    rw [HFEW.out, if_neg (by simp)]
    rfl
  · have HFEW : Hid (fewT q most = true) := by
      show _ = _; unfold fewT
      rw [decide_eq_true (by have := HLS.out; omega), decide_eq_true (by have := HLT.out; omega)]; rfl
    cases neg with
    | false =>
      have hz : ¬ q.num < 0 := by have := HNEG.out; simpa using this
      have HNT : Hid ((⟨(numT q).toArray⟩ : ByteArray) = s) := by show _ = _; unfold numT; rw [if_neg hz, HSS.out]; rfl
      clear hz
      go_wp2_with fail
      refine end_ratio rfl rfl rfl hr0 hr1 ⟨?_, set2_below' (HBW.out.trans (HB2.out.mono HSZ.out)) (by have := HGX.out; omega)⟩
      unfold ratT
      rw [HFEW.out, if_pos rfl, HNT.out, ← HTT.out]
      rfl
    | true =>
      have hz : q.num < 0 := by have := HNEG.out; simpa using this
      have HNT : Hid ((⟨(numT q).toArray⟩ : ByteArray) = ⟨#[45]⟩ ++ s) := by
        show _ = _; unfold numT; rw [if_pos hz, HSS.out]
        apply ByteArray.ext
        simp [ByteArray.data_append]
      clear hz
      go_wp2_with fail
      refine end_ratio rfl rfl rfl hr0 hr1 ⟨?_, set2_below' (HBW.out.trans (HB2.out.mono HSZ.out)) (by have := HGX.out; omega)⟩
      unfold ratT
      rw [HFEW.out, if_pos rfl, HNT.out, ← HTT.out]
      rfl
end Go.Proofs.YtcjdmffflepplaaDoor
