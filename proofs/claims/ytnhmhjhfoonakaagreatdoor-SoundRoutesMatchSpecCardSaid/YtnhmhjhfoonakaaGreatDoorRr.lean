/- The document's Of, Compare, Sum, Product, Inverse, Order. -/
import Derived.Test.YtnhmhjhfoonakaaGreatDoorRq
import Derived.Test.YtnhmhjhfoonakaaGreatDoorCwl
set_option linter.unusedSimpArgs false
set_option linter.unusedVariables false
namespace Go.Proofs.YtnhmhjhfoonakaaGreatDoor
open Go.RowKit Go.Dw Go.Joins
set_option maxRecDepth 100000 in
set_option maxHeartbeats 2000000 in
theorem ROF_ok {s t : ByteArray} {q : Rat} (h : Rt s t q) (w : World) : Calls Tryz.prog 25 #[.agg #[.string s, .string t]] w (OutR w q 2001 2000) := by
  obtain ⟨W, gx, hW, hgx, HHW, HBW, HSW⟩ := boxes2 w (.cells #[.string s, .string t] 26) (.cells #[.bool false, .slice none 0 0, .slice none 0 0] 56)
  have HGX := Lib.hid hgx
  obtain ⟨hc0, hc1, _, _⟩ := two_cells HHW.out.1
  have hgw := blk_lt HHW.out.2
  have HHR := Lib.hid HHW.out.2
  have hr := chk_right h.chk
  have hz := h.size
  have hv := hr.val
  rw [h.val] at hv
  have HTA : Hid (AllDig t.data.toList) := hr.den.1
  have HTV : Hid (decV t.data.toList = q.den) := hv.2.symm
  have hts : t.size ≤ 2000 := hz.2
  have hbl := hr.few
  have hab : decV (bodyT s) = q.num.natAbs := by rw [hv.1, parseZ_abs]
  have hsg : negT s = decide (q.num < 0) := by rw [hv.1, parse_neg hr.body hr.zero]
  have hba := hr.body.1
  have hpos : 0 < s.size := by
    have := (body_size s).1
    have : 0 < (bodyT s).length := by
      rcases hr.body.2 with h1 | ⟨c, r, h1, _⟩ <;> rw [h1] <;> simp
    omega
  have hp9 : (0 : Int) < (s.size : Int) := by omega
  have hby := at_getD s (i := 0) hpos
  obtain ⟨b, hb⟩ : ∃ b, negT s = b := ⟨_, rfl⟩
  have HNG : Hid (b = decide (q.num < 0)) := by show _ = _; rw [← hb, hsg]
  clear h hr hv hz hsg
  cases b with
  | false =>
    have hbd : bodyT s = s.data.toList := prefix_false hb
    obtain ⟨x, hx⟩ : ∃ x, s[0].toNat = x := ⟨_, rfl⟩
    have hx45 : ((x : Int) == 45) = false := by
      have : x ≠ 45 := by
        intro e
        have h1 : s.data.toList.getD 0 0 = 45 := UInt8.toNat_inj.1 (by rw [← hby, hx, e]; rfl)
        have h2 := len_data s
        unfold negT at hb
        cases hl2 : s.data.toList with
        | nil => rw [hl2] at h2; simp at h2; omega
        | cons c r =>
          rw [hl2] at h1 hb
          have : c = 45 := h1
          rw [this, neg_cons] at hb
          cases hb
      simp; omega
    have HVA : Hid (AllDig s.data.toList) := by rw [← hbd]; exact hba
    have HVV : Hid (decV s.data.toList = q.num.natAbs) := by show _ = _; rw [← hbd]; exact hab
    have hvs : s.size ≤ 2000 := by rw [← len_data, ← hbd]; exact hbl
    clear hb hby hbd hba hab hbl
    go_enter Tryz.func25, Tryz.ntmps25
    go_upto_region 1 with (fail)
    rw [← hW, ← hgx]
    clear hW hgx HHW HSW
    go_upto_region 4 with (fail)
    refine wp_region_text 7 (fun x => x.cell? ⟨gx, 1, none⟩ = some (.string t)) (by kernel_rfl) (by kernel_rfl) ?_
    obtain ⟨wc, hwc⟩ : ∃ x : World, x = W.drew := ⟨_, rfl⟩
    have HBc : Hid (Below W.heap.size W wc) := by show Below _ _ _; rw [hwc]; exact (Below.refl _ _).drew
    have hS : wc.cell? ⟨gx, 1, none⟩ = some (.string t) := by rw [hwc]; exact hc1
    have hgc : gx < wc.heap.size := by rw [hwc]; show gx < W.heap.size; omega
    rw [← hwc]
    clear hwc hc0 hc1
    refine HT.take (i := 0) (oi := _) (v := ?_) rfl (by kernel_rfl) (by kernel_rfl) (by decide) (fun _ _ _ h => h) (Or.inl ⟨by rfl, ?_⟩) hS ?_
    rotate_left
    · intro wz
      go_simp
      try with_reducible rfl
    simp only [List.getElem_toArray, List.getElem_cons_succ, List.getElem_cons_zero, Act.put, List.setIfInBounds_toArray, List.set_cons_zero, List.set_cons_succ]
    refine HT.take (i := 1) (oi := _) (v := ?_) rfl (by kernel_rfl) (by kernel_rfl) (by decide) (fun _ _ _ h => h) (Or.inl ⟨by rfl, ?_⟩) hS ?_
    rotate_left
    · intro wz
      go_simp
      try with_reducible rfl
    simp only [List.getElem_toArray, List.getElem_cons_succ, List.getElem_cons_zero, Act.put, List.setIfInBounds_toArray, List.set_cons_zero, List.set_cons_succ]
    refine HT.take (i := 3) (oi := _) (v := ?_) rfl (by kernel_rfl) (by kernel_rfl) (by decide) (fun _ _ _ h => h) (Or.inl ⟨by rfl, ?_⟩) hS ?_
    rotate_left
    · intro wz
      go_simp
      try with_reducible rfl
    simp only [List.getElem_toArray, List.getElem_cons_succ, List.getElem_cons_zero, Act.put, List.setIfInBounds_toArray, List.set_cons_zero, List.set_cons_succ]
    refine HT.load (i := 4) (oi := _) (v := ?_) rfl (by kernel_rfl) (by kernel_rfl) (by decide) (fun _ _ _ h => h) (by kernel_rfl) (Or.inl ⟨by rfl, ?_⟩) hS ?_
    rotate_left
    · intro wz hwz
      try dsimp only at hwz
      go_simp
      try with_reducible rfl
    simp only [List.getElem_toArray, List.getElem_cons_succ, List.getElem_cons_zero, Act.put, List.setIfInBounds_toArray, List.set_cons_zero, List.set_cons_succ]
    refine HT.one (i := 2) (o := _) rfl (by kernel_rfl) (by decide) (by rfl) ?_
    intro K hK
    go_simp
    refine (RLIMBS_any s HVA (by omega) _).mono ?_
    rintro e wn ⟨A1, n1, c1, rfl, h1, k1, hbn⟩
    have H1 := Lib.hid h1
    clear h1
    have HBn := Lib.hid (HBc.out.trans (hbn.mono HBc.out.size))
    have hSn := (hbn.cell (p := ⟨gx, 1, none⟩) hgc).trans hS
    have hgn := Nat.lt_of_lt_of_le hgc hbn.size
    refine hK.out _ _ hSn ?_
    clear hK K hS HBc hgc
    try simp only [List.getElem_toArray, List.getElem_cons_succ, List.getElem_cons_zero, Act.put, List.setIfInBounds_toArray, List.set_cons_zero, List.set_cons_succ]
    have hS := hSn
    have HBc := HBn
    have hgc := hgn
    clear hSn HBn hgn hbn
    obtain ⟨wc, rfl⟩ : ∃ x : World, x = wn := ⟨_, rfl⟩
    refine HT.one (i := 5) (o := _) rfl (by kernel_rfl) (by decide) (by rfl) ?_
    intro K hK
    go_simp
    refine (RLIMBS_any t HTA (by omega) _).mono ?_
    rintro e wn ⟨A2, n2, c2, rfl, h2, k2, hbn⟩
    have H2 := Lib.hid h2
    clear h2
    replace H1 := Lib.hid (H1.out.to hbn (Nat.le_refl _) hbn.size)
    have HBn := Lib.hid (HBc.out.trans (hbn.mono HBc.out.size))
    have hSn := (hbn.cell (p := ⟨gx, 1, none⟩) hgc).trans hS
    have hgn := Nat.lt_of_lt_of_le hgc hbn.size
    refine hK.out _ _ hSn ?_
    clear hK K hS HBc hgc
    try simp only [List.getElem_toArray, List.getElem_cons_succ, List.getElem_cons_zero, Act.put, List.setIfInBounds_toArray, List.set_cons_zero, List.set_cons_succ]
    have hS := hSn
    have HBc := HBn
    have hgc := hgn
    clear hSn HBn hgn hbn
    obtain ⟨wc, rfl⟩ : ∃ x : World, x = wn := ⟨_, rfl⟩
    refine HT.take (i := 6) (oi := _) (v := ?_) rfl (by kernel_rfl) (by kernel_rfl) (by decide) (fun _ _ _ h => h) (Or.inl ⟨by rfl, ?_⟩) hS ?_
    rotate_left
    · intro wz
      go_simp
      try with_reducible rfl
    simp only [List.getElem_toArray, List.getElem_cons_succ, List.getElem_cons_zero, Act.put, List.setIfInBounds_toArray, List.set_cons_zero, List.set_cons_succ]
    refine HT.done (by kernel_rfl) ?_
    clear hS
    simp only [List.drop_succ_cons, List.drop_zero]
    rw [HVV.out] at H1
    rw [HTV.out] at H2
    obtain ⟨hr0, hr1, hr2, hf0, hf1, hf2⟩ := three_cells ((HBc.out.block (gx + 1) hgw).trans HHR.out)
    have HHX := Lib.hid ((HBc.out.block (gx + 1) hgw).trans HHR.out)
    go_wp2_with fail
    exact end_rnum rfl rfl rfl hr0 hr1 hr2 (outR_set (q := q) HNG.out (by have := HGX.out; omega) ⟨_, _, HHX.out⟩ H1.out H2.out (HBW.out.trans (HBc.out.mono HBW.out.size)) (by omega) (by omega))
  | true =>
    have hcons : s.data.toList = 45 :: bodyT s := prefix_true hb
    have hx45 : s[0].toNat = 45 := by rw [hby, hcons]; rfl
    obtain ⟨v, hv⟩ : ∃ u : ByteArray, u = s.extract 1 s.size := ⟨_, rfl⟩
    have HVD : Hid (v.data.toList = bodyT s) := by
      show _ = _
      rw [hv, Lib.extract_to_end, hcons]
      rfl
    have HVA : Hid (AllDig v.data.toList) := by rw [HVD.out]; exact hba
    have HVV : Hid (decV v.data.toList = q.num.natAbs) := by show _ = _; rw [HVD.out]; exact hab
    have hvs : v.size ≤ 2000 := by rw [← len_data, HVD.out]; exact hbl
    clear hb hby hcons hba hab hbl
    go_enter Tryz.func25, Tryz.ntmps25
    go_upto_region 1 with (fail)
    rw [← hW, ← hgx]
    clear hW hgx HHW HSW
    go_upto_region 4 with (fail)
    rw [← hv]
    clear hv
    refine wp_region_text 7 (fun x => x.cell? ⟨gx, 1, none⟩ = some (.string t)) (by kernel_rfl) (by kernel_rfl) ?_
    obtain ⟨wc, hwc⟩ : ∃ x : World, x = W.drew := ⟨_, rfl⟩
    have HBc : Hid (Below W.heap.size W wc) := by show Below _ _ _; rw [hwc]; exact (Below.refl _ _).drew
    have hS : wc.cell? ⟨gx, 1, none⟩ = some (.string t) := by rw [hwc]; exact hc1
    have hgc : gx < wc.heap.size := by rw [hwc]; show gx < W.heap.size; omega
    rw [← hwc]
    clear hwc hc0 hc1
    refine HT.take (i := 0) (oi := _) (v := ?_) rfl (by kernel_rfl) (by kernel_rfl) (by decide) (fun _ _ _ h => h) (Or.inl ⟨by rfl, ?_⟩) hS ?_
    rotate_left
    · intro wz
      go_simp
      try with_reducible rfl
    simp only [List.getElem_toArray, List.getElem_cons_succ, List.getElem_cons_zero, Act.put, List.setIfInBounds_toArray, List.set_cons_zero, List.set_cons_succ]
    refine HT.take (i := 1) (oi := _) (v := ?_) rfl (by kernel_rfl) (by kernel_rfl) (by decide) (fun _ _ _ h => h) (Or.inl ⟨by rfl, ?_⟩) hS ?_
    rotate_left
    · intro wz
      go_simp
      try with_reducible rfl
    simp only [List.getElem_toArray, List.getElem_cons_succ, List.getElem_cons_zero, Act.put, List.setIfInBounds_toArray, List.set_cons_zero, List.set_cons_succ]
    refine HT.take (i := 3) (oi := _) (v := ?_) rfl (by kernel_rfl) (by kernel_rfl) (by decide) (fun _ _ _ h => h) (Or.inl ⟨by rfl, ?_⟩) hS ?_
    rotate_left
    · intro wz
      go_simp
      try with_reducible rfl
    simp only [List.getElem_toArray, List.getElem_cons_succ, List.getElem_cons_zero, Act.put, List.setIfInBounds_toArray, List.set_cons_zero, List.set_cons_succ]
    refine HT.load (i := 4) (oi := _) (v := ?_) rfl (by kernel_rfl) (by kernel_rfl) (by decide) (fun _ _ _ h => h) (by kernel_rfl) (Or.inl ⟨by rfl, ?_⟩) hS ?_
    rotate_left
    · intro wz hwz
      try dsimp only at hwz
      go_simp
      try with_reducible rfl
    simp only [List.getElem_toArray, List.getElem_cons_succ, List.getElem_cons_zero, Act.put, List.setIfInBounds_toArray, List.set_cons_zero, List.set_cons_succ]
    refine HT.one (i := 2) (o := _) rfl (by kernel_rfl) (by decide) (by rfl) ?_
    intro K hK
    go_simp
    refine (RLIMBS_any v HVA (by omega) _).mono ?_
    rintro e wn ⟨A1, n1, c1, rfl, h1, k1, hbn⟩
    have H1 := Lib.hid h1
    clear h1
    have HBn := Lib.hid (HBc.out.trans (hbn.mono HBc.out.size))
    have hSn := (hbn.cell (p := ⟨gx, 1, none⟩) hgc).trans hS
    have hgn := Nat.lt_of_lt_of_le hgc hbn.size
    refine hK.out _ _ hSn ?_
    clear hK K hS HBc hgc
    try simp only [List.getElem_toArray, List.getElem_cons_succ, List.getElem_cons_zero, Act.put, List.setIfInBounds_toArray, List.set_cons_zero, List.set_cons_succ]
    have hS := hSn
    have HBc := HBn
    have hgc := hgn
    clear hSn HBn hgn hbn
    obtain ⟨wc, rfl⟩ : ∃ x : World, x = wn := ⟨_, rfl⟩
    refine HT.one (i := 5) (o := _) rfl (by kernel_rfl) (by decide) (by rfl) ?_
    intro K hK
    go_simp
    refine (RLIMBS_any t HTA (by omega) _).mono ?_
    rintro e wn ⟨A2, n2, c2, rfl, h2, k2, hbn⟩
    have H2 := Lib.hid h2
    clear h2
    replace H1 := Lib.hid (H1.out.to hbn (Nat.le_refl _) hbn.size)
    have HBn := Lib.hid (HBc.out.trans (hbn.mono HBc.out.size))
    have hSn := (hbn.cell (p := ⟨gx, 1, none⟩) hgc).trans hS
    have hgn := Nat.lt_of_lt_of_le hgc hbn.size
    refine hK.out _ _ hSn ?_
    clear hK K hS HBc hgc
    try simp only [List.getElem_toArray, List.getElem_cons_succ, List.getElem_cons_zero, Act.put, List.setIfInBounds_toArray, List.set_cons_zero, List.set_cons_succ]
    have hS := hSn
    have HBc := HBn
    have hgc := hgn
    clear hSn HBn hgn hbn
    obtain ⟨wc, rfl⟩ : ∃ x : World, x = wn := ⟨_, rfl⟩
    refine HT.take (i := 6) (oi := _) (v := ?_) rfl (by kernel_rfl) (by kernel_rfl) (by decide) (fun _ _ _ h => h) (Or.inl ⟨by rfl, ?_⟩) hS ?_
    rotate_left
    · intro wz
      go_simp
      try with_reducible rfl
    simp only [List.getElem_toArray, List.getElem_cons_succ, List.getElem_cons_zero, Act.put, List.setIfInBounds_toArray, List.set_cons_zero, List.set_cons_succ]
    refine HT.done (by kernel_rfl) ?_
    clear hS
    simp only [List.drop_succ_cons, List.drop_zero]
    rw [HVV.out] at H1
    rw [HTV.out] at H2
    obtain ⟨hr0, hr1, hr2, hf0, hf1, hf2⟩ := three_cells ((HBc.out.block (gx + 1) hgw).trans HHR.out)
    have HHX := Lib.hid ((HBc.out.block (gx + 1) hgw).trans HHR.out)
    go_wp2_with fail
    exact end_rnum rfl rfl rfl hr0 hr1 hr2 (outR_set (q := q) HNG.out (by have := HGX.out; omega) ⟨_, _, HHX.out⟩ H1.out H2.out (HBW.out.trans (HBc.out.mono HBW.out.size)) (by omega) (by omega))
end Go.Proofs.YtnhmhjhfoonakaaGreatDoor
