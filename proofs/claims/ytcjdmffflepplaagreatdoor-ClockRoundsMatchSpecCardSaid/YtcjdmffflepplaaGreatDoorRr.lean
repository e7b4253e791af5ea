/- The document's Of, Compare, Sum, Product, Inverse, Order. -/
import Derived.Test.YtcjdmffflepplaaGreatDoorRq
import Derived.Test.YtcjdmffflepplaaGreatDoorCwl
set_option linter.unusedSimpArgs false
set_option linter.unusedVariables false
namespace Go.Proofs.YtcjdmffflepplaaGreatDoor
open Go.RowKit Go.Dw Go.Joins
set_option maxRecDepth 100000 in
set_option maxHeartbeats 1000000 in
theorem RBOTH1_any (s t s' t' : ByteArray) (hs : s.size ≤ maxLen) (ht : t.size ≤ maxLen) (hs' : s'.size ≤ maxLen) (ht' : t'.size ≤ maxLen) (w : World) :
    Calls Tryz.prog 56 #[.agg #[.string s, .string t], .agg #[.string s', .string t']] w fun e w' => e = .returned (.int .i64 (chk2 s t s' t')) ∧ Below w.heap.size w w' := by
  obtain ⟨W, gx, hW, hgx, HHW, HBW, HSW⟩ := boxes2 w (.cells #[.string s, .string t] 28) (.cells #[.string s', .string t'] 28)
  have HGX := Lib.hid hgx
  obtain ⟨x0, x1, _, _⟩ := two_cells HHW.out.1
  obtain ⟨y0, y1, _, _⟩ := two_cells HHW.out.2
  have hgw := blk_lt HHW.out.2
  obtain ⟨k, hk⟩ : ∃ k, chkQ s t = k := ⟨_, rfl⟩
  have HK := Lib.hid hk
  clear hk
  go_enter Tryz.func56, Tryz.ntmps56
  go_upto_region 1 with (fail)
  rw [← hW, ← hgx]
  clear hW hgx
  go_wp2_with fail
  refine (RCHECKRATIO_any s t hs ht _).mono ?_
  rintro e w1 ⟨rfl, hb1⟩
  rw [HK.out]
  obtain ⟨y0, y1⟩ := two_keep (And.intro y0 y1) hb1 (by dsimp only; omega) (by dsimp only; omega)
  have HB1 := Lib.hid (HBW.out.trans (hb1.mono HBW.out.size))
  clear hb1 x0 x1
  by_cases h0 : k = 0
  · subst h0
    go_wp2_with fail
    refine (RCHECKRATIO_any s' t' hs' ht' _).mono ?_
    rintro e w2 ⟨rfl, hb2⟩
    have HB2 := Lib.hid (HB1.out.trans (hb2.mono HB1.out.size))
    clear hb2
    go_wp2_with fail
    go_ret
    exact ⟨by unfold chk2; rw [if_pos HK.out]; rfl, HB2.out⟩
  · have h1 : (k != 0) = true := by simpa using h0
    have HV : Hid (chk2 s t s' t' = k) := by show _ = _; unfold chk2; rw [if_neg (by rw [HK.out]; exact h0), HK.out]
    clear h0
    go_wp2_with fail
    go_ret
    exact ⟨by rw [HV.out]; rfl, HB1.out⟩
set_option maxRecDepth 100000 in
set_option maxHeartbeats 2000000 in
theorem ROF_ok {s t : ByteArray} {q : Rat} (h : Rt s t q) (w : World) : Calls Tryz.prog 47 #[.agg #[.string s, .string t]] w (OutR w q 2001 2000) := by
  obtain ⟨W, gx, hW, hgx, HHW, HBW, HSW⟩ := boxes2 w (.cells #[.string s, .string t] 28) (.cells #[.bool false, .slice none 0 0, .slice none 0 0] 55)
  have HGX := Lib.hid hgx
  obtain ⟨hc0, hc1, _, _⟩ := two_cells HHW.out.1
  have hgw := blk_lt HHW.out.2
  have HHR := Lib.hid HHW.out.2
  have hr := chk_right h.chk
  have hz := h.size
  have hv := hr.val
  rw [h.val] at hv
  have HTA : Hid (AllDig t.data.toList) := hr.den.1
  have HTV : Hid (decV t.data.toList = q.den) := hv.2.symm
  have hts : t.size ≤ 2000 := hz.2
  have hbl := hr.few
  have hab : decV (bodyT s) = q.num.natAbs := by rw [hv.1, parseZ_abs]
  have hsg : negT s = decide (q.num < 0) := by rw [hv.1, parse_neg hr.body hr.zero]
  have hba := hr.body.1
  have hpos : 0 < s.size := by
    have := (body_size s).1
    have : 0 < (bodyT s).length := by
      rcases hr.body.2 with h1 | ⟨c, r, h1, _⟩ <;> rw [h1] <;> simp
    omega
  have hp9 : (0 : Int) < (s.size : Int) := by omega
  have hby := at_getD s (i := 0) hpos
  obtain ⟨b, hb⟩ : ∃ b, negT s = b := ⟨_, rfl⟩
  have HNG : Hid (b = decide (q.num < 0)) := by show _ = _; rw [← hb, hsg]
  clear h hr hv hz hsg
  cases b with
  | false =>
    have hbd : bodyT s = s.data.toList := prefix_false hb
    obtain ⟨x, hx⟩ : ∃ x, s[0].toNat = x := ⟨_, rfl⟩
    have hx45 : ((x : Int) == 45) = false := by
      have : x ≠ 45 := by
        intro e
        have h1 : s.data.toList.getD 0 0 = 45 := UInt8.toNat_inj.1 (by rw [← hby, hx, e]; rfl)
        have h2 := len_data s
        unfold negT at hb
        cases hl2 : s.data.toList with
        | nil => rw [hl2] at h2; simp at h2; omega
        | cons c r =>
          rw [hl2] at h1 hb
          have : c = 45 := h1
          rw [this, neg_cons] at hb
          cases hb
      simp; omega
    have HVA : Hid (AllDig s.data.toList) := by rw [← hbd]; exact hba
    have HVV : Hid (decV s.data.toList = q.num.natAbs) := by show _ = _; rw [← hbd]; exact hab
    have hvs : s.size ≤ 2000 := by rw [← len_data, ← hbd]; exact hbl
    clear hb hby hbd hba hab hbl
    go_enter Tryz.func47, Tryz.ntmps47
    go_upto_region 1 with (fail)
    rw [← hW, ← hgx]
    clear hW hgx HHW HSW
    go_upto_region 4 with (fail)
    refine wp_region_text 7 (fun x => x.cell? ⟨gx, 1, none⟩ = some (.string t)) (by kernel_rfl) (by kernel_rfl) ?_
    obtain ⟨wc, hwc⟩ : ∃ x : World, x = W.drew := ⟨_, rfl⟩
    have HBc : Hid (Below W.heap.size W wc) := by show Below _ _ _; rw [hwc]; exact (Below.refl _ _).drew
    have hS : wc.cell? ⟨gx, 1, none⟩ = some (.string t) := by rw [hwc]; exact hc1
    have hgc : gx < wc.heap.size := by rw [hwc]; show gx < W.heap.size; omega
    rw [← hwc]
    clear hwc hc0 hc1
    refine HT.take (i := 0) (oi := _) (v := ?_) rfl (by kernel_rfl) (by kernel_rfl) (by decide) (fun _ _ _ h => h) (Or.inl ⟨by rfl, ?_⟩) hS ?_
    rotate_left
    · intro wz
      go_simp
      try with_reducible rfl
    simp only [List.getElem_toArray, List.getElem_cons_succ, List.getElem_cons_zero, Act.put, List.setIfInBounds_toArray, List.set_cons_zero, List.set_cons_succ]
    refine HT.take (i := 1) (oi := _) (v := ?_) rfl (by kernel_rfl) (by kernel_rfl) (by decide) (fun _ _ _ h => h) (Or.inl ⟨by rfl, ?_⟩) hS ?_
    rotate_left
    · intro wz
      go_simp
      try with_reducible rfl
    simp only [List.getElem_toArray, List.getElem_cons_succ, List.getElem_cons_zero, Act.put, List.setIfInBounds_toArray, List.set_cons_zero, List.set_cons_succ]
    refine HT.take (i := 3) (oi := _) (v := ?_) rfl (by kernel_rfl) (by kernel_rfl) (by decide) (fun _ _ _ h => h) (Or.inl ⟨by rfl, ?_⟩) hS ?_
    rotate_left
    · intro wz
      go_simp
      try with_reducible rfl
    simp only [List.getElem_toArray, List.getElem_cons_succ, List.getElem_cons_zero, Act.put, List.setIfInBounds_toArray, List.set_cons_zero, List.set_cons_succ]
    refine HT.load (i := 4) (oi := _) (v := ?_) rfl (by kernel_rfl) (by kernel_rfl) (by decide) (fun _ _ _ h => h) (by kernel_rfl) (Or.inl ⟨by rfl, ?_⟩) hS ?_
    rotate_left
    · intro wz hwz
      try dsimp only at hwz
      go_simp
      try with_reducible rfl
    simp only [List.getElem_toArray, List.getElem_cons_succ, List.getElem_cons_zero, Act.put, List.setIfInBounds_toArray, List.set_cons_zero, List.set_cons_succ]
    refine HT.one (i := 2) (o := _) rfl (by kernel_rfl) (by decide) (by rfl) ?_
    intro K hK
    go_simp
    refine (RLIMBS_any s HVA (by omega) _).mono ?_
    rintro e wn ⟨A1, n1, c1, rfl, h1, k1, hbn⟩
    have H1 := Lib.hid h1
    clear h1
    have HBn := Lib.hid (HBc.out.trans (hbn.mono HBc.out.size))
    have hSn := (hbn.cell (p := ⟨gx, 1, none⟩) hgc).trans hS
    have hgn := Nat.lt_of_lt_of_le hgc hbn.size
    refine hK.out _ _ hSn ?_
    clear hK K hS HBc hgc
    try simp only [List.getElem_toArray, List.getElem_cons_succ, List.getElem_cons_zero, Act.put, List.setIfInBounds_toArray, List.set_cons_zero, List.set_cons_succ]
    have hS := hSn
    have HBc := HBn
    have hgc := hgn
    clear hSn HBn hgn hbn
    obtain ⟨wc, rfl⟩ : ∃ x : World, x = wn := ⟨_, rfl⟩
    refine HT.one (i := 5) (o := _) rfl (by kernel_rfl) (by decide) (by rfl) ?_
    intro K hK
    go_simp
    refine (RLIMBS_any t HTA (by omega) _).mono ?_
    rintro e wn ⟨A2, n2, c2, rfl, h2, k2, hbn⟩
    have H2 := Lib.hid h2
    clear h2
    replace H1 := Lib.hid (H1.out.to hbn (Nat.le_refl _) hbn.size)
    have HBn := Lib.hid (HBc.out.trans (hbn.mono HBc.out.size))
    have hSn := (hbn.cell (p := ⟨gx, 1, none⟩) hgc).trans hS
    have hgn := Nat.lt_of_lt_of_le hgc hbn.size
    refine hK.out _ _ hSn ?_
    clear hK K hS HBc hgc
    try simp only [List.getElem_toArray, List.getElem_cons_succ, List.getElem_cons_zero, Act.put, List.setIfInBounds_toArray, List.set_cons_zero, List.set_cons_succ]
    have hS := hSn
    have HBc := HBn
    have hgc := hgn
    clear hSn HBn hgn hbn
    obtain ⟨wc, rfl⟩ : ∃ x : World, x = wn := ⟨_, rfl⟩
    refine HT.take (i := 6) (oi := _) (v := ?_) rfl (by kernel_rfl) (by kernel_rfl) (by decide) (fun _ _ _ h => h) (Or.inl ⟨by rfl, ?_⟩) hS ?_
    rotate_left
    · intro wz
      go_simp
      try with_reducible rfl
    simp only [List.getElem_toArray, List.getElem_cons_succ, List.getElem_cons_zero, Act.put, List.setIfInBounds_toArray, List.set_cons_zero, List.set_cons_succ]
    refine HT.done (by kernel_rfl) ?_
    clear hS
    simp only [List.drop_succ_cons, List.drop_zero]
    rw [HVV.out] at H1
    rw [HTV.out] at H2
    obtain ⟨hr0, hr1, hr2, hf0, hf1, hf2⟩ := three_cells ((HBc.out.block (gx + 1) hgw).trans HHR.out)
    have HHX := Lib.hid ((HBc.out.block (gx + 1) hgw).trans HHR.out)
    go_wp2_with fail
    exact end_rnum rfl rfl rfl hr0 hr1 hr2 (outR_set (q := q) HNG.out (by have := HGX.out; omega) ⟨_, _, HHX.out⟩ H1.out H2.out (HBW.out.trans (HBc.out.mono HBW.out.size)) (by omega) (by omega))
  | true =>
    have hcons : s.data.toList = 45 :: bodyT s := prefix_true hb
    have hx45 : s[0].toNat = 45 := by rw [hby, hcons]; rfl
    obtain ⟨v, hv⟩ : ∃ u : ByteArray, u = s.extract 1 s.size := ⟨_, rfl⟩
    have HVD : Hid (v.data.toList = bodyT s) := by
      show _ = _
      rw [hv, Lib.extract_to_end, hcons]
      rfl
    have HVA : Hid (AllDig v.data.toList) := by rw [HVD.out]; exact hba
    have HVV : Hid (decV v.data.toList = q.num.natAbs) := by show _ = _; rw [HVD.out]; exact hab
    have hvs : v.size ≤ 2000 := by rw [← len_data, HVD.out]; exact hbl
    clear hb hby hcons hba hab hbl
    go_enter Tryz.func47, Tryz.ntmps47
    go_upto_region 1 with (fail)
    rw [← hW, ← hgx]
    clear hW hgx HHW HSW
    go_upto_region 4 with (fail)
    rw [← hv]
    clear hv
    refine wp_region_text 7 (fun x => x.cell? ⟨gx, 1, none⟩ = some (.string t)) (by kernel_rfl) (by kernel_rfl) ?_
    obtain ⟨wc, hwc⟩ : ∃ x : World, x = W.drew := ⟨_, rfl⟩
    have HBc : Hid (Below W.heap.size W wc) := by show Below _ _ _; rw [hwc]; exact (Below.refl _ _).drew
    have hS : wc.cell? ⟨gx, 1, none⟩ = some (.string t) := by rw [hwc]; exact hc1
    have hgc : gx < wc.heap.size := by rw [hwc]; show gx < W.heap.size; omega
    rw [← hwc]
    clear hwc hc0 hc1
    refine HT.take (i := 0) (oi := _) (v := ?_) rfl (by kernel_rfl) (by kernel_rfl) (by decide) (fun _ _ _ h => h) (Or.inl ⟨by rfl, ?_⟩) hS ?_
    rotate_left
    · intro wz
      go_simp
      try with_reducible rfl
    simp only [List.getElem_toArray, List.getElem_cons_succ, List.getElem_cons_zero, Act.put, List.setIfInBounds_toArray, List.set_cons_zero, List.set_cons_succ]
    refine HT.take (i := 1) (oi := _) (v := ?_) rfl (by kernel_rfl) (by kernel_rfl) (by decide) (fun _ _ _ h => h) (Or.inl ⟨by rfl, ?_⟩) hS ?_
    rotate_left
    · intro wz
      go_simp
      try with_reducible rfl
    simp only [List.getElem_toArray, List.getElem_cons_succ, List.getElem_cons_zero, Act.put, List.setIfInBounds_toArray, List.set_cons_zero, List.set_cons_succ]
    refine HT.take (i := 3) (oi := _) (v := ?_) rfl (by kernel_rfl) (by kernel_rfl) (by decide) (fun _ _ _ h => h) (Or.inl ⟨by rfl, ?_⟩) hS ?_
    rotate_left
    · intro wz
      go_simp
      try with_reducible rfl
    simp only [List.getElem_toArray, List.getElem_cons_succ, List.getElem_cons_zero, Act.put, List.setIfInBounds_toArray, List.set_cons_zero, List.set_cons_succ]
    refine HT.load (i := 4) (oi := _) (v := ?_) rfl (by kernel_rfl) (by kernel_rfl) (by decide) (fun _ _ _ h => h) (by kernel_rfl) (Or.inl ⟨by rfl, ?_⟩) hS ?_
    rotate_left
    · intro wz hwz
      try dsimp only at hwz
      go_simp
      try with_reducible rfl
    simp only [List.getElem_toArray, List.getElem_cons_succ, List.getElem_cons_zero, Act.put, List.setIfInBounds_toArray, List.set_cons_zero, List.set_cons_succ]
    refine HT.one (i := 2) (o := _) rfl (by kernel_rfl) (by decide) (by rfl) ?_
    intro K hK
    go_simp
    refine (RLIMBS_any v HVA (by omega) _).mono ?_
    rintro e wn ⟨A1, n1, c1, rfl, h1, k1, hbn⟩
    have H1 := Lib.hid h1
    clear h1
    have HBn := Lib.hid (HBc.out.trans (hbn.mono HBc.out.size))
    have hSn := (hbn.cell (p := ⟨gx, 1, none⟩) hgc).trans hS
    have hgn := Nat.lt_of_lt_of_le hgc hbn.size
    refine hK.out _ _ hSn ?_
    clear hK K hS HBc hgc
    try simp only [List.getElem_toArray, List.getElem_cons_succ, List.getElem_cons_zero, Act.put, List.setIfInBounds_toArray, List.set_cons_zero, List.set_cons_succ]
    have hS := hSn
    have HBc := HBn
    have hgc := hgn
    clear hSn HBn hgn hbn
    obtain ⟨wc, rfl⟩ : ∃ x : World, x = wn := ⟨_, rfl⟩
    refine HT.one (i := 5) (o := _) rfl (by kernel_rfl) (by decide) (by rfl) ?_
    intro K hK
    go_simp
    refine (RLIMBS_any t HTA (by omega) _).mono ?_
    rintro e wn ⟨A2, n2, c2, rfl, h2, k2, hbn⟩
    have H2 := Lib.hid h2
    clear h2
    replace H1 := Lib.hid (H1.out.to hbn (Nat.le_refl _) hbn.size)
    have HBn := Lib.hid (HBc.out.trans (hbn.mono HBc.out.size))
    have hSn := (hbn.cell (p := ⟨gx, 1, none⟩) hgc).trans hS
    have hgn := Nat.lt_of_lt_of_le hgc hbn.size
    refine hK.out _ _ hSn ?_
    clear hK K hS HBc hgc
    try simp only [List.getElem_toArray, List.getElem_cons_succ, List.getElem_cons_zero, Act.put, List.setIfInBounds_toArray, List.set_cons_zero, List.set_cons_succ]
    have hS := hSn
    have HBc := HBn
    have hgc := hgn
    clear hSn HBn hgn hbn
    obtain ⟨wc, rfl⟩ : ∃ x : World, x = wn := ⟨_, rfl⟩
    refine HT.take (i := 6) (oi := _) (v := ?_) rfl (by kernel_rfl) (by kernel_rfl) (by decide) (fun _ _ _ h => h) (Or.inl ⟨by rfl, ?_⟩) hS ?_
    rotate_left
    · intro wz
      go_simp
      try with_reducible rfl
    simp only [List.getElem_toArray, List.getElem_cons_succ, List.getElem_cons_zero, Act.put, List.setIfInBounds_toArray, List.set_cons_zero, List.set_cons_succ]
    refine HT.done (by kernel_rfl) ?_
    clear hS
    simp only [List.drop_succ_cons, List.drop_zero]
    rw [HVV.out] at H1
    rw [HTV.out] at H2
    obtain ⟨hr0, hr1, hr2, hf0, hf1, hf2⟩ := three_cells ((HBc.out.block (gx + 1) hgw).trans HHR.out)
    have HHX := Lib.hid ((HBc.out.block (gx + 1) hgw).trans HHR.out)
    go_wp2_with fail
    exact end_rnum rfl rfl rfl hr0 hr1 hr2 (outR_set (q := q) HNG.out (by have := HGX.out; omega) ⟨_, _, HHX.out⟩ H1.out H2.out (HBW.out.trans (HBc.out.mono HBW.out.size)) (by omega) (by omega))
set_option maxRecDepth 100000 in
set_option maxHeartbeats 1000000 in
theorem RNLONG_any (neg : Bool) (A D : Option Addr) (n c m d : Nat) (q : Rat) (most : Nat) (hmost : most ≤ 1000000000) (hn : n ≤ 1000000) (hm : m ≤ 1000000) (w : World) (ht : Hid (TabAt w)) (B : Nat) (hB : B ≤ w.heap.size) (hh : Hid (NumR w B neg A n c D m d q)) :
    Calls Tryz.prog 98 #[.agg #[.bool neg, .slice A n c, .slice D m d], .int .i64 most] w fun e w' => e = .returned (.bool (!fewT q most)) ∧ Below w.heap.size w w' := by
  obtain ⟨W, gx, hW, hgx, HHW, HBW, HSW⟩ := rcell_new w 55 #[.bool neg, .slice A n c, .slice D m d]
  have HGX := Lib.hid hgx
  obtain ⟨x0, x1, x2, _, _, _⟩ := three_cells HHW.out
  have hgw := blk_lt HHW.out
  have HRW := Lib.hid (hh.out.to HBW.out hB (by have := HSW.out; omega))
  obtain ⟨s, hs⟩ : ∃ s : ByteArray, s = ⟨(Lib.decDigits q.num.natAbs).toArray⟩ := ⟨_, rfl⟩
  obtain ⟨t, htt⟩ : ∃ s : ByteArray, s = ⟨(Lib.decDigits q.den).toArray⟩ := ⟨_, rfl⟩
  have HLS : Hid (s.size = (Lib.decDigits q.num.natAbs).length) := by show _ = _; rw [hs]; simp [ByteArray.size]
  have HLT : Hid (t.size = (Lib.decDigits q.den).length) := by show _ = _; rw [htt]; simp [ByteArray.size]
  go_enter Tryz.func98, Tryz.ntmps98
  go_upto_region 1 with (fail)
  rw [← hW, ← hgx]
  clear hW hgx
  go_wp2_with fail
  refine (RDIGITS_any A n c _ hn _ W.heap.size (Nat.le_refl _) (Lib.hid (ht.out.below HBW.out)) (Lib.hid HRW.out.2.1)).mono ?_
  rintro e w1 ⟨rfl, hb1⟩
  obtain ⟨x0, x1, x2⟩ := three_keep (And.intro x0 (And.intro x1 x2)) hb1 (by dsimp only; omega) (by dsimp only; omega) (by dsimp only; omega)
  have HB1 := Lib.hid (HBW.out.trans (hb1.mono HBW.out.size))
  have HD1 := Lib.hid (HRW.out.2.2.to hb1 (Nat.le_refl _) hb1.size)
  rw [← hs]
  clear hb1 hs
  by_cases h1 : most < s.size
  · have HV : Hid (fewT q most = false) := by show _ = _; unfold fewT; rw [decide_eq_false (by have := HLS.out; omega)]; rfl
    have h9 : (most : Int) < (s.size : Int) := by omega
    clear htt
    go_wp2_with fail
    go_ret
    exact ⟨by rw [HV.out]; rfl, HB1.out⟩
  · have h9 : ¬ (most : Int) < (s.size : Int) := by omega
    go_wp2_with fail
    refine (RDIGITS_any D m d _ hm _ w1.heap.size (Nat.le_refl _) (Lib.hid (ht.out.below HB1.out)) HD1).mono ?_
    rintro e w2 ⟨rfl, hb2⟩
    have HB2 := Lib.hid (HB1.out.trans (hb2.mono HB1.out.size))
    rw [← htt]
    clear hb2 htt
    by_cases h2 : most < t.size
    · have HV : Hid (fewT q most = false) := by show _ = _; unfold fewT; rw [decide_eq_false (p := (Lib.decDigits q.den).length ≤ most) (by have := HLT.out; omega), Bool.and_false]
      have h8 : (most : Int) < (t.size : Int) := by omega
      go_wp2_with fail
      go_ret
      exact ⟨by rw [HV.out]; rfl, HB2.out⟩
    · have HV : Hid (fewT q most = true) := by
        show _ = _; unfold fewT
        rw [decide_eq_true (by have := HLS.out; omega), decide_eq_true (by have := HLT.out; omega)]; rfl
      have h8 : ¬ (most : Int) < (t.size : Int) := by omega
      go_wp2_with fail
      go_ret
      exact ⟨by rw [HV.out]; rfl, HB2.out⟩
set_option maxRecDepth 100000 in
set_option maxHeartbeats 1000000 in
theorem RBOUNDED_any (neg : Bool) (A D : Option Addr) (n c m d : Nat) (q : Rat) (hn : n ≤ 1000000) (hm : m ≤ 1000000) (w : World) (ht : Hid (TabAt w)) (B : Nat) (hB : B ≤ w.heap.size) (hh : Hid (NumR w B neg A n c D m d q)) :
    Calls Tryz.prog 57 #[.agg #[.bool neg, .slice A n c, .slice D m d]] w fun e w' => e = .returned (tup3 (resP q)) ∧ Below w.heap.size w w' := by
  obtain ⟨W, gx, hW, hgx, HHW, HBW, HSW⟩ := boxes2 w (.cells #[.bool neg, .slice A n c, .slice D m d] 55) (.cells #[.string ⟨#[]⟩, .string ⟨#[]⟩] 28)
  have HGX := Lib.hid hgx
  obtain ⟨x0, x1, x2, _, _, _⟩ := three_cells HHW.out.1
  have hgw := blk_lt HHW.out.2
  have HRW := Lib.hid (hh.out.to HBW.out hB (by have := HSW.out; omega))
  go_enter Tryz.func57, Tryz.ntmps57
  go_upto_region 1 with (fail)
  rw [← hW, ← hgx]
  clear hW hgx
  go_wp2_with fail
  refine (RNLONG_any neg A D n c m d q 2000 (by omega) hn hm _ (Lib.hid (ht.out.below HBW.out)) W.heap.size (Nat.le_refl _) HRW).mono ?_
  rintro e w1 ⟨rfl, hb1⟩
  obtain ⟨x0, x1, x2⟩ := three_keep (And.intro x0 (And.intro x1 x2)) hb1 (by dsimp only; omega) (by dsimp only; omega) (by dsimp only; omega)
  have HB1 := Lib.hid (HBW.out.trans (hb1.mono HBW.out.size))
  have HHX := Lib.hid ((hb1.block (gx + 1) hgw).trans HHW.out.2)
  have hgx1 := Nat.lt_of_lt_of_le hgw hb1.size
  have HR1 := Lib.hid (HRW.out.to hb1 (Nat.le_refl _) hb1.size)
  clear hb1
  by_cases hf : fewT q 2000 = true
  · have HV : Hid (resP q = (txN q, txD q, 0)) := resP_few hf
    rw [hf]
    clear hf
    go_wp2_with fail
    refine (ROUT_any neg A D n c m d q hn hm _ (Lib.hid (ht.out.below HB1.out)) w1.heap.size (Nat.le_refl _) HR1).mono ?_
    rintro e w2 ⟨rfl, hb2⟩
    obtain ⟨hr0, hr1, hf0, hf1⟩ := two_cells ((hb2.block (gx + 1) hgx1).trans HHX.out)
    have HB2 := Lib.hid (HB1.out.trans (hb2.mono HB1.out.size))
    clear hb2 x0 x1 x2
    go_wp2_with fail
    exact end_ratio rfl rfl rfl hr0 hr1 ⟨by rw [HV.out]; rfl, set2_below' HB2.out (by have := HGX.out; omega)⟩
  · have HV : Hid (resP q = (noB, noB, 2)) := by show _ = _; unfold resP; rw [if_neg hf]
    have hff : fewT q 2000 = false := by simpa using hf
    obtain ⟨hr0, hr1, hf0, hf1⟩ := two_cells HHX.out
    rw [hff]
    clear hf hff x0 x1 x2
    go_wp2_with fail
    exact end_ratio rfl rfl rfl hr0 hr1 ⟨by rw [HV.out]; rfl, set2_below' HB1.out (by have := HGX.out; omega)⟩
end Go.Proofs.YtcjdmffflepplaaGreatDoor
