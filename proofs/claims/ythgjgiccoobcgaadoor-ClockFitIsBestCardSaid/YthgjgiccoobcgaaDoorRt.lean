/- The document's Compare, Order, Inverse. -/
import Derived.Test.YthgjgiccoobcgaaDoorRr
set_option linter.unusedSimpArgs false
set_option linter.unusedVariables false
namespace Go.Proofs.YthgjgiccoobcgaaDoor
open Go.RowKit Go.Dw Go.Joins
theorem rat_sub (q r : Rat) : ((q + -r).num).sign = cmpQ q r := by
  have e : q + -r = mkRat (q.num * r.den - r.num * q.den) (q.den * r.den) := by
    rw [← Rat.sub_eq_add_neg, Rat.sub_def']
  have hd : 0 < q.den * r.den := Nat.mul_pos q.den_pos r.den_pos
  obtain ⟨h1, _⟩ := rmk_fields (q.num * r.den - r.num * q.den) (q.den * r.den) hd
  have h2 := rdiv_gcd (q.num * r.den - r.num * q.den) (Nat.gcd (q.num * r.den - r.num * q.den).natAbs (q.den * r.den)) (Nat.gcd_pos_of_pos_right _ hd) (Nat.gcd_dvd_left _ _)
  rw [e, h1]
  unfold cmpQ cmpZ
  generalize q.num * (r.den : Int) = u at *
  generalize r.num * (q.den : Int) = v at *
  have hg := Nat.gcd_pos_of_pos_right (u - v).natAbs hd
  have hgd := Nat.gcd_dvd_left (u - v).natAbs (q.den * r.den)
  generalize Nat.gcd (u - v).natAbs (q.den * r.den) = g at *
  have hz : ((u - v) / (g : Int)).natAbs = 0 ↔ (u - v).natAbs = 0 := by
    rw [h2.1]
    constructor
    · intro h
      obtain ⟨t, ht⟩ := hgd
      rw [ht, Nat.mul_div_cancel_left _ hg] at h
      rw [ht, h, Nat.mul_zero]
    · intro h; rw [h, Nat.zero_div]
  have hs := decide_eq_decide.1 h2.2
  by_cases h1 : u < v
  · rw [if_pos h1, Int.sign_eq_neg_one_of_neg (hs.2 (by omega))]
  · rw [if_neg h1]
    by_cases h3 : u = v
    · rw [if_pos h3]
      have : (u - v) / (g : Int) = 0 := by rw [h3]; simp
      rw [this]; rfl
    · rw [if_neg h3]
      refine Int.sign_eq_one_of_pos ?_
      have h4 : ¬ (u - v) / (g : Int) < 0 := fun h => by have := hs.1 h; omega
      have h5 : ((u - v) / (g : Int)).natAbs ≠ 0 := fun h => by have := hz.1 h; omega
      omega
set_option maxRecDepth 100000 in
set_option maxHeartbeats 4000000 in
theorem RCOMPARE_any (neg neg' : Bool) (A A' D D' : Option Addr) (n c m d n' c' m' d' : Nat) (q r : Rat) (hn : n ≤ 1000000) (hm : m ≤ 1000000) (hn' : n' ≤ 1000000) (hm' : m' ≤ 1000000) (w : World) (B : Nat) (hB : B ≤ w.heap.size) (hh : Hid (NumR w B neg A n c D m d q)) (hh' : Hid (NumR w B neg' A' n' c' D' m' d' r)) :
    Calls Tryd.prog 17 #[.agg #[.bool neg, .slice A n c, .slice D m d], .agg #[.bool neg', .slice A' n' c', .slice D' m' d']] w fun e w' => e = .returned (.int .i64 (cmpQ q r)) ∧ Below w.heap.size w w' := by
  obtain ⟨W, gx, hW, hgx, HHW, HBX, HSW⟩ := boxes2 w (.cells #[.bool neg, .slice A n c, .slice D m d] 43) (.cells #[.bool neg', .slice A' n' c', .slice D' m' d'] 43)
  have HGX := Lib.hid hgx
  obtain ⟨x0, x1, x2, _, _, _⟩ := three_cells HHW.out.1
  obtain ⟨y0, y1, y2, _, _, _⟩ := three_cells HHW.out.2
  have hgw := blk_lt HHW.out.2
  have HRW := Lib.hid (hh.out.to HBX.out hB (by have := HSW.out; omega))
  have HRW' := Lib.hid (hh'.out.to HBX.out hB (by have := HSW.out; omega))
  clear hh hh'
  go_enter Tryd.func17, Tryd.ntmps17
  go_upto_region 1 with (fail)
  rw [← hW, ← hgx]
  clear hW hgx HHW HSW
  refine wp_region_text 5 (fun x => x.cell? ⟨gx, 0, none⟩ = some (.bool neg) ∧ x.cell? ⟨gx, 1, none⟩ = some (.slice A n c) ∧ x.cell? ⟨gx, 2, none⟩ = some (.slice D m d) ∧ x.cell? ⟨gx + 1, 0, none⟩ = some (.bool neg') ∧ x.cell? ⟨gx + 1, 1, none⟩ = some (.slice A' n' c') ∧ x.cell? ⟨gx + 1, 2, none⟩ = some (.slice D' m' d')) (by kernel_rfl) (by kernel_rfl) ?_
  obtain ⟨wc, hwc⟩ : ∃ x : World, x = W.drew := ⟨_, rfl⟩
  have HBc : Hid (Below W.heap.size W wc) := by show Below _ _ _; rw [hwc]; exact (Below.refl _ _).drew
  have hS : wc.cell? ⟨gx, 0, none⟩ = some (.bool neg) ∧ wc.cell? ⟨gx, 1, none⟩ = some (.slice A n c) ∧ wc.cell? ⟨gx, 2, none⟩ = some (.slice D m d) ∧ wc.cell? ⟨gx + 1, 0, none⟩ = some (.bool neg') ∧ wc.cell? ⟨gx + 1, 1, none⟩ = some (.slice A' n' c') ∧ wc.cell? ⟨gx + 1, 2, none⟩ = some (.slice D' m' d') := by rw [hwc]; exact ⟨x0, x1, x2, y0, y1, y2⟩
  have hgc1 : gx < wc.heap.size := by rw [hwc]; show gx < W.heap.size; omega
  have hgc2 : gx + 1 < wc.heap.size := by rw [hwc]; exact hgw
  rw [← hwc]
  clear hwc x0 x1 x2 y0 y1 y2
  refine HT.load (i := 0) (oi := _) (v := ?_) rfl (by kernel_rfl) (by kernel_rfl) (by decide) (fun _ _ _ h => h) (by kernel_rfl) (Or.inl ⟨by rfl, ?_⟩) hS ?_
  rotate_left
  · intro wz hwz
    try dsimp only at hwz
    go_simp
    try with_reducible rfl
  simp only [List.getElem_toArray, List.getElem_cons_succ, List.getElem_cons_zero, Act.put, List.setIfInBounds_toArray, List.set_cons_zero, List.set_cons_succ]
  refine HT.load (i := 1) (oi := _) (v := ?_) rfl (by kernel_rfl) (by kernel_rfl) (by decide) (fun _ _ _ h => h) (by kernel_rfl) (Or.inl ⟨by rfl, ?_⟩) hS ?_
  rotate_left
  · intro wz hwz
    try dsimp only at hwz
    go_simp
    try with_reducible rfl
  simp only [List.getElem_toArray, List.getElem_cons_succ, List.getElem_cons_zero, Act.put, List.setIfInBounds_toArray, List.set_cons_zero, List.set_cons_succ]
  refine HT.two 2 4 (o := _) (o' := _) rfl rfl (by kernel_rfl) (by decide) (by decide) (by rfl) (by rfl) ?_ ?_
  · intro K hK
    go_simp
    refine (RMINUS_any neg' A' D' n' c' m' d' r _ W.heap.size HBc.out.size (by exact Lib.hid (HRW'.out.below HBc.out (Nat.le_refl _)))).mono ?_
    rintro e wn ⟨ng1, A1, n1, c1, D1, m1, d1, rfl, h1, k1, l1, hbn⟩
    have H1 := Lib.hid h1
    clear h1
    skip
    have HBn := Lib.hid (HBc.out.trans (hbn.mono HBc.out.size))
    have hSn := six_keep hS hbn hgc1 hgc2
    have hgn1 := Nat.lt_of_lt_of_le hgc1 hbn.size
    have hgn2 := Nat.lt_of_lt_of_le hgc2 hbn.size
    refine hK.out _ _ hSn ?_
    clear hK K hS HBc hgc1 hgc2
    try simp only [List.getElem_toArray, List.getElem_cons_succ, List.getElem_cons_zero, Act.put, List.setIfInBounds_toArray, List.set_cons_zero, List.set_cons_succ]
    have hS := hSn
    have HBc := HBn
    have hgc1 := hgn1
    have hgc2 := hgn2
    clear hSn HBn hgn1 hgn2 hbn
    obtain ⟨wc, rfl⟩ : ∃ x : World, x = wn := ⟨_, rfl⟩
    refine HT.two 3 4 (o := _) (o' := _) rfl rfl (by kernel_rfl) (by decide) (by decide) (by rfl) (by rfl) ?_ ?_
    · intro K hK
      go_simp
      refine (RPLUS_any neg ng1 A A1 D D1 n c m d n1 c1 m1 d1 q (-r) (by omega) (by omega) (by omega) (by omega) _ wc.heap.size (Nat.le_refl _) (by exact Lib.hid (HRW.out.to HBc.out (Nat.le_refl _) HBc.out.size)) H1).mono ?_
      rintro e wn ⟨ng2, A2, n2, c2, D2, m2, d2, rfl, h2, k2, l2, hbn⟩
      have H2 := Lib.hid h2
      clear h2 H1
      skip
      have HBn := Lib.hid (HBc.out.trans (hbn.mono HBc.out.size))
      have hSn := six_keep hS hbn hgc1 hgc2
      have hgn1 := Nat.lt_of_lt_of_le hgc1 hbn.size
      have hgn2 := Nat.lt_of_lt_of_le hgc2 hbn.size
      refine hK.out _ _ hSn ?_
      clear hK K hS HBc hgc1 hgc2
      try simp only [List.getElem_toArray, List.getElem_cons_succ, List.getElem_cons_zero, Act.put, List.setIfInBounds_toArray, List.set_cons_zero, List.set_cons_succ]
      have hS := hSn
      have HBc := HBn
      have hgc1 := hgn1
      have hgc2 := hgn2
      clear hSn HBn hgn1 hgn2 hbn
      obtain ⟨wc, rfl⟩ : ∃ x : World, x = wn := ⟨_, rfl⟩
      refine HT.one (i := 4) (o := _) rfl (by kernel_rfl) (by decide) (by rfl) ?_
      intro K hK
      have HGA0 : Hid (W.heap.size ≤ wc.heap.size) := HBc.out.size
      go_simp
      obtain ⟨wn, ga, hwn, hga, HA, hbn0, _⟩ := rcell_new wc 43 #[.bool false, .slice none 0 0, .slice none 0 0]
      have HGA : Hid (W.heap.size ≤ ga) := by rw [hga]; exact HGA0
      have hbn := hbn0.out
      rw [← hwn, ← hga]
      clear hwn hga hbn0
      replace H2 := Lib.hid (H2.out.to hbn (Nat.le_refl _) hbn.size)
      have HBn := Lib.hid (HBc.out.trans (hbn.mono HBc.out.size))
      have hSn := six_keep hS hbn hgc1 hgc2
      have hgn1 := Nat.lt_of_lt_of_le hgc1 hbn.size
      have hgn2 := Nat.lt_of_lt_of_le hgc2 hbn.size
      refine hK.out _ _ hSn ?_
      clear hK K hS HBc hgc1 hgc2
      try simp only [List.getElem_toArray, List.getElem_cons_succ, List.getElem_cons_zero, Act.put, List.setIfInBounds_toArray, List.set_cons_zero, List.set_cons_succ]
      have hS := hSn
      have HBc := HBn
      have hgc1 := hgn1
      have hgc2 := hgn2
      clear hSn HBn hgn1 hgn2 hbn
      obtain ⟨wc, rfl⟩ : ∃ x : World, x = wn := ⟨_, rfl⟩
      obtain ⟨z0, _⟩ := hS
      have hS := z0
      refine HT.done (by kernel_rfl) ?_
      clear hS
      simp only [List.drop_succ_cons, List.drop_zero]
      obtain ⟨hr0, hr1, hr2, hf0, hf1, hf2⟩ := three_cells HA.out
      have HPOS := Lib.hid (H2.out.2.1.pos_iff (by omega))
      have HSG := Lib.hid H2.out.1
      have HFB := Lib.hid (HBX.out.trans (HBc.out.mono HBX.out.size))
      have hga : W.heap.size ≤ ga := by exact HGA.out
      have hsg := rat_sub q r
      by_cases hn2 : n2 = 0
      · have HV : Hid (cmpQ q r = 0) := by
          show _ = _
          rw [← hsg]
          have : (q + -r).num = 0 := by
            have : ¬ 0 < (q + -r).num.natAbs := fun h => by have := HPOS.out.2 h; omega
            omega
          rw [this]; rfl
        subst hn2
        clear hsg
        go_wp2_with fail
        go_ret
        exact ⟨by rw [HV.out]; rfl, set3_below HFB.out (by have := HBX.out.size; omega)⟩
      · have hn9 : ((n2 : Int) == 0) = false := by simp; omega
        have hp : 0 < (q + -r).num.natAbs := HPOS.out.1 (by omega)
        cases ng2 with
        | true =>
          have HV : Hid (cmpQ q r = -1) := by
            have h3 := HSG.out
            show _ = _
            rw [← hsg, Int.sign_eq_neg_one_of_neg (by simpa using h3.symm)]
          clear hsg hn2 hp
          go_wp2_with fail
          go_ret
          exact ⟨by rw [HV.out]; rfl, set3_below HFB.out (by have := HBX.out.size; omega)⟩
        | false =>
          have HV : Hid (cmpQ q r = 1) := by
            have h3 := HSG.out
            have h4 : ¬ (q + -r).num < 0 := by simpa using h3.symm
            show _ = _
            rw [← hsg, Int.sign_eq_one_of_pos (by omega)]
          clear hsg hn2 hp
          go_wp2_with fail
          go_ret
          exact ⟨by rw [HV.out]; rfl, set3_below HFB.out (by have := HBX.out.size; omega)⟩
    · intro K hK
      have HGA0 : Hid (W.heap.size ≤ wc.heap.size) := HBc.out.size
      go_simp
      obtain ⟨wn, ga, hwn, hga, HA, hbn0, _⟩ := rcell_new wc 43 #[.bool false, .slice none 0 0, .slice none 0 0]
      have HGA : Hid (W.heap.size ≤ ga) := by rw [hga]; exact HGA0
      have hbn := hbn0.out
      rw [← hwn, ← hga]
      clear hwn hga hbn0
      replace H1 := Lib.hid (H1.out.to hbn (Nat.le_refl _) hbn.size)
      have HBn := Lib.hid (HBc.out.trans (hbn.mono HBc.out.size))
      have hSn := six_keep hS hbn hgc1 hgc2
      have hgn1 := Nat.lt_of_lt_of_le hgc1 hbn.size
      have hgn2 := Nat.lt_of_lt_of_le hgc2 hbn.size
      refine hK.out _ _ hSn ?_
      clear hK K hS HBc hgc1 hgc2
      try simp only [List.getElem_toArray, List.getElem_cons_succ, List.getElem_cons_zero, Act.put, List.setIfInBounds_toArray, List.set_cons_zero, List.set_cons_succ]
      have hS := hSn
      have HBc := HBn
      have hgc1 := hgn1
      have hgc2 := hgn2
      clear hSn HBn hgn1 hgn2 hbn
      obtain ⟨wc, rfl⟩ : ∃ x : World, x = wn := ⟨_, rfl⟩
      refine HT.one (i := 3) (o := _) rfl (by kernel_rfl) (by decide) (by rfl) ?_
      intro K hK
      go_simp
      refine (RPLUS_any neg ng1 A A1 D D1 n c m d n1 c1 m1 d1 q (-r) (by omega) (by omega) (by omega) (by omega) _ wc.heap.size (Nat.le_refl _) (by exact Lib.hid (HRW.out.to HBc.out (Nat.le_refl _) HBc.out.size)) H1).mono ?_
      rintro e wn ⟨ng2, A2, n2, c2, D2, m2, d2, rfl, h2, k2, l2, hbn⟩
      have H2 := Lib.hid h2
      clear h2 H1
      replace HA := Lib.hid ((hbn.block ga (blk_lt HA.out)).trans HA.out)
      have HBn := Lib.hid (HBc.out.trans (hbn.mono HBc.out.size))
      have hSn := six_keep hS hbn hgc1 hgc2
      have hgn1 := Nat.lt_of_lt_of_le hgc1 hbn.size
      have hgn2 := Nat.lt_of_lt_of_le hgc2 hbn.size
      refine hK.out _ _ hSn ?_
      clear hK K hS HBc hgc1 hgc2
      try simp only [List.getElem_toArray, List.getElem_cons_succ, List.getElem_cons_zero, Act.put, List.setIfInBounds_toArray, List.set_cons_zero, List.set_cons_succ]
      have hS := hSn
      have HBc := HBn
      have hgc1 := hgn1
      have hgc2 := hgn2
      clear hSn HBn hgn1 hgn2 hbn
      obtain ⟨wc, rfl⟩ : ∃ x : World, x = wn := ⟨_, rfl⟩
      obtain ⟨z0, _⟩ := hS
      have hS := z0
      refine HT.done (by kernel_rfl) ?_
      clear hS
      simp only [List.drop_succ_cons, List.drop_zero]
      obtain ⟨hr0, hr1, hr2, hf0, hf1, hf2⟩ := three_cells HA.out
      have HPOS := Lib.hid (H2.out.2.1.pos_iff (by omega))
      have HSG := Lib.hid H2.out.1
      have HFB := Lib.hid (HBX.out.trans (HBc.out.mono HBX.out.size))
      have hga : W.heap.size ≤ ga := by exact HGA.out
      have hsg := rat_sub q r
      by_cases hn2 : n2 = 0
      · have HV : Hid (cmpQ q r = 0) := by
          show _ = _
          rw [← hsg]
          have : (q + -r).num = 0 := by
            have : ¬ 0 < (q + -r).num.natAbs := fun h => by have := HPOS.out.2 h; omega
            omega
          rw [this]; rfl
        subst hn2
        clear hsg
        go_wp2_with fail
        go_ret
        exact ⟨by rw [HV.out]; rfl, set3_below HFB.out (by have := HBX.out.size; omega)⟩
      · have hn9 : ((n2 : Int) == 0) = false := by simp; omega
        have hp : 0 < (q + -r).num.natAbs := HPOS.out.1 (by omega)
        cases ng2 with
        | true =>
          have HV : Hid (cmpQ q r = -1) := by
            have h3 := HSG.out
            show _ = _
            rw [← hsg, Int.sign_eq_neg_one_of_neg (by simpa using h3.symm)]
          clear hsg hn2 hp
          go_wp2_with fail
          go_ret
          exact ⟨by rw [HV.out]; rfl, set3_below HFB.out (by have := HBX.out.size; omega)⟩
        | false =>
          have HV : Hid (cmpQ q r = 1) := by
            have h3 := HSG.out
            have h4 : ¬ (q + -r).num < 0 := by simpa using h3.symm
            show _ = _
            rw [← hsg, Int.sign_eq_one_of_pos (by omega)]
          clear hsg hn2 hp
          go_wp2_with fail
          go_ret
          exact ⟨by rw [HV.out]; rfl, set3_below HFB.out (by have := HBX.out.size; omega)⟩
  · intro K hK
    have HGA0 : Hid (W.heap.size ≤ wc.heap.size) := HBc.out.size
    go_simp
    obtain ⟨wn, ga, hwn, hga, HA, hbn0, _⟩ := rcell_new wc 43 #[.bool false, .slice none 0 0, .slice none 0 0]
    have HGA : Hid (W.heap.size ≤ ga) := by rw [hga]; exact HGA0
    have hbn := hbn0.out
    rw [← hwn, ← hga]
    clear hwn hga hbn0
    have HBn := Lib.hid (HBc.out.trans (hbn.mono HBc.out.size))
    have hSn := six_keep hS hbn hgc1 hgc2
    have hgn1 := Nat.lt_of_lt_of_le hgc1 hbn.size
    have hgn2 := Nat.lt_of_lt_of_le hgc2 hbn.size
    refine hK.out _ _ hSn ?_
    clear hK K hS HBc hgc1 hgc2
    try simp only [List.getElem_toArray, List.getElem_cons_succ, List.getElem_cons_zero, Act.put, List.setIfInBounds_toArray, List.set_cons_zero, List.set_cons_succ]
    have hS := hSn
    have HBc := HBn
    have hgc1 := hgn1
    have hgc2 := hgn2
    clear hSn HBn hgn1 hgn2 hbn
    obtain ⟨wc, rfl⟩ : ∃ x : World, x = wn := ⟨_, rfl⟩
    refine HT.one (i := 2) (o := _) rfl (by kernel_rfl) (by decide) (by rfl) ?_
    intro K hK
    go_simp
    refine (RMINUS_any neg' A' D' n' c' m' d' r _ W.heap.size HBc.out.size (by exact Lib.hid (HRW'.out.below HBc.out (Nat.le_refl _)))).mono ?_
    rintro e wn ⟨ng1, A1, n1, c1, D1, m1, d1, rfl, h1, k1, l1, hbn⟩
    have H1 := Lib.hid h1
    clear h1
    replace HA := Lib.hid ((hbn.block ga (blk_lt HA.out)).trans HA.out)
    have HBn := Lib.hid (HBc.out.trans (hbn.mono HBc.out.size))
    have hSn := six_keep hS hbn hgc1 hgc2
    have hgn1 := Nat.lt_of_lt_of_le hgc1 hbn.size
    have hgn2 := Nat.lt_of_lt_of_le hgc2 hbn.size
    refine hK.out _ _ hSn ?_
    clear hK K hS HBc hgc1 hgc2
    try simp only [List.getElem_toArray, List.getElem_cons_succ, List.getElem_cons_zero, Act.put, List.setIfInBounds_toArray, List.set_cons_zero, List.set_cons_succ]
    have hS := hSn
    have HBc := HBn
    have hgc1 := hgn1
    have hgc2 := hgn2
    clear hSn HBn hgn1 hgn2 hbn
    obtain ⟨wc, rfl⟩ : ∃ x : World, x = wn := ⟨_, rfl⟩
    refine HT.one (i := 3) (o := _) rfl (by kernel_rfl) (by decide) (by rfl) ?_
    intro K hK
    go_simp
    refine (RPLUS_any neg ng1 A A1 D D1 n c m d n1 c1 m1 d1 q (-r) (by omega) (by omega) (by omega) (by omega) _ wc.heap.size (Nat.le_refl _) (by exact Lib.hid (HRW.out.to HBc.out (Nat.le_refl _) HBc.out.size)) H1).mono ?_
    rintro e wn ⟨ng2, A2, n2, c2, D2, m2, d2, rfl, h2, k2, l2, hbn⟩
    have H2 := Lib.hid h2
    clear h2 H1
    replace HA := Lib.hid ((hbn.block ga (blk_lt HA.out)).trans HA.out)
    have HBn := Lib.hid (HBc.out.trans (hbn.mono HBc.out.size))
    have hSn := six_keep hS hbn hgc1 hgc2
    have hgn1 := Nat.lt_of_lt_of_le hgc1 hbn.size
    have hgn2 := Nat.lt_of_lt_of_le hgc2 hbn.size
    refine hK.out _ _ hSn ?_
    clear hK K hS HBc hgc1 hgc2
    try simp only [List.getElem_toArray, List.getElem_cons_succ, List.getElem_cons_zero, Act.put, List.setIfInBounds_toArray, List.set_cons_zero, List.set_cons_succ]
    have hS := hSn
    have HBc := HBn
    have hgc1 := hgn1
    have hgc2 := hgn2
    clear hSn HBn hgn1 hgn2 hbn
    obtain ⟨wc, rfl⟩ : ∃ x : World, x = wn := ⟨_, rfl⟩
    obtain ⟨z0, _⟩ := hS
    have hS := z0
    refine HT.done (by kernel_rfl) ?_
    clear hS
    simp only [List.drop_succ_cons, List.drop_zero]
    obtain ⟨hr0, hr1, hr2, hf0, hf1, hf2⟩ := three_cells HA.out
    have HPOS := Lib.hid (H2.out.2.1.pos_iff (by omega))
    have HSG := Lib.hid H2.out.1
    have HFB := Lib.hid (HBX.out.trans (HBc.out.mono HBX.out.size))
    have hga : W.heap.size ≤ ga := by exact HGA.out
    have hsg := rat_sub q r
    by_cases hn2 : n2 = 0
    · have HV : Hid (cmpQ q r = 0) := by
        show _ = _
        rw [← hsg]
        have : (q + -r).num = 0 := by
          have : ¬ 0 < (q + -r).num.natAbs := fun h => by have := HPOS.out.2 h; omega
          omega
        rw [this]; rfl
      subst hn2
      clear hsg
      go_wp2_with fail
      go_ret
      exact ⟨by rw [HV.out]; rfl, set3_below HFB.out (by have := HBX.out.size; omega)⟩
    · have hn9 : ((n2 : Int) == 0) = false := by simp; omega
      have hp : 0 < (q + -r).num.natAbs := HPOS.out.1 (by omega)
      cases ng2 with
      | true =>
        have HV : Hid (cmpQ q r = -1) := by
          have h3 := HSG.out
          show _ = _
          rw [← hsg, Int.sign_eq_neg_one_of_neg (by simpa using h3.symm)]
        clear hsg hn2 hp
        go_wp2_with fail
        go_ret
        exact ⟨by rw [HV.out]; rfl, set3_below HFB.out (by have := HBX.out.size; omega)⟩
      | false =>
        have HV : Hid (cmpQ q r = 1) := by
          have h3 := HSG.out
          have h4 : ¬ (q + -r).num < 0 := by simpa using h3.symm
          show _ = _
          rw [← hsg, Int.sign_eq_one_of_pos (by omega)]
        clear hsg hn2 hp
        go_wp2_with fail
        go_ret
        exact ⟨by rw [HV.out]; rfl, set3_below HFB.out (by have := HBX.out.size; omega)⟩
end Go.Proofs.YthgjgiccoobcgaaDoor
