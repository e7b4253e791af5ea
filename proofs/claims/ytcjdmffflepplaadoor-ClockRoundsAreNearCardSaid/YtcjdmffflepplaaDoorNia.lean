/- num.Int: Mul, Add. -/
import Derived.Test.YtcjdmffflepplaaDoorNi
import Derived.Test.YtcjdmffflepplaaDoorRegion2
set_option linter.unusedSimpArgs false
set_option linter.unusedVariables false
namespace Go.Proofs.YtcjdmffflepplaaDoor
open Go.RowKit Go.Dw
theorem sign_mul {a b : Int} (x y : Bool) (hx : x = decide (a < 0)) (hy : y = decide (b < 0)) : decide (a * b < 0) = ((x != y) && decide (0 < (a * b).natAbs)) := by
  subst hx hy
  rcases Int.lt_trichotomy a 0 with h | h | h
  · rcases Int.lt_trichotomy b 0 with k | k | k
    · have := Int.mul_pos_of_neg_of_neg h k
      have h1 : ¬ a * b < 0 := by omega
      simp [h, k, h1]
    · subst k; simp
    · have := Int.mul_neg_of_neg_of_pos h k
      have h1 : ¬ b < 0 := by omega
      simp [h, h1, this]
      omega
  · subst h; simp
  · rcases Int.lt_trichotomy b 0 with k | k | k
    · have := Int.mul_neg_of_pos_of_neg h k
      have h1 : ¬ a < 0 := by omega
      simp [k, h1, this]
      omega
    · subst k; simp
    · have := Int.mul_pos h k
      have h1 : ¬ a * b < 0 := by omega
      have h2 : ¬ a < 0 := by omega
      have h3 : ¬ b < 0 := by omega
      simp [h1, h2, h3]
set_option maxRecDepth 100000 in
set_option maxHeartbeats 2000000 in
theorem IMUL_any (neg neg' : Bool) (A A' : Option Addr) (n c n' c' : Nat) (z z' : Int) (hn : n ≤ 400000000000) (hn' : n' ≤ 400000000000) (w : World) (B : Nat) (hB : B ≤ w.heap.size) (hh : Hid (IntAt w B neg A n c z)) (hh' : Hid (IntAt w B neg' A' n' c' z')) :
    Calls Tryd.prog 24 #[.agg #[.bool neg, .slice A n c], .agg #[.bool neg', .slice A' n' c']] w (OutI w (z * z') (n + n')) := by
  obtain ⟨W, gx, hW, hgx, HHW, HBW, HSW⟩ := boxes3 w (.cells #[.bool neg, .slice A n c] 43) (.cells #[.bool neg', .slice A' n' c'] 43) (.cells #[.bool false, .slice none 0 0] 43)
  have HGX := Lib.hid hgx
  have HNEG := Lib.hid hh.out.1
  have HNEG' := Lib.hid hh'.out.1
  have hc0 := (two_cells HHW.out.1).1
  have hc1 := (two_cells HHW.out.2.1).1
  have HNW := Lib.hid (hh.out.2.to HBW.out hB (by have := HSW.out; omega))
  have HNW' := Lib.hid (hh'.out.2.to HBW.out hB (by have := HSW.out; omega))
  go_enter Tryd.func24, Tryd.ntmps24
  go_wp2_with fail
  rw [← hW, ← hgx]
  clear hW hgx
  refine (NMUL_any A A' n c _ n' c' _ hn hn' _ W.heap.size (Nat.le_refl _) HNW HNW').mono ?_
  rintro e w1 ⟨A1, n1, c1, rfl, h1, k1, hb1⟩
  rw [← Int.natAbs_mul] at h1
  have H1 := Lib.hid h1
  have hcw0 := (hb1.cell (p := ⟨gx, 0, none⟩) (blk_lt HHW.out.1)).trans hc0
  have hcw1 := (hb1.cell (p := ⟨gx + 1, 0, none⟩) (blk_lt HHW.out.2.1)).trans hc1
  have HB1 := Lib.hid (HBW.out.trans (hb1.mono (by have := HSW.out; omega)))
  have hhx := (hb1.block (gx + 1 + 1) (blk_lt HHW.out.2.2)).trans HHW.out.2.2
  obtain ⟨hr0, hr1, hf0, hf1⟩ := two_cells hhx
  have hgx2 : gx + 1 + 1 < w1.heap.size := blk_lt hhx
  have HHX := Lib.hid hhx
  clear hhx
  have hpos := h1.pos_iff (by omega)
  clear hb1 h1 hc0 hc1 HNW HNW' hn hn'
  have HSAME : Hid (∀ x : Bool, decide (0 < (z * z').natAbs) = decide (0 < n1)) := fun _ => by
    by_cases hp : 0 < n1
    · rw [decide_eq_true hp, decide_eq_true (hpos.1 hp)]
    · rw [decide_eq_false hp, decide_eq_false (fun h => hp (hpos.2 h))]
  clear hpos
  cases neg with
  | true =>
    cases neg' with
    | true =>
      have HSG : Hid (((true != true) && decide (0 < (z * z').natAbs)) = false) := rfl
      go_wp2_with fail
      exact end_intn rfl rfl rfl hr0 hr1 (outI_set (z := z * z') (neg := false) (by rw [sign_mul _ _ HNEG.out HNEG'.out, HSG.out]) (by have := HGX.out; omega) ⟨_, _, HHX.out⟩ H1.out HB1.out k1)
    | false =>
      by_cases hp : 0 < n1
      · have hd : decide ((0 : Int) < (n1 : Int)) = true := by simp; omega
        have HSG : Hid (((true != false) && decide (0 < (z * z').natAbs)) = true) := by rw [HSAME.out true, decide_eq_true hp]; rfl
        go_wp2_with fail
        exact end_intn rfl rfl rfl hr0 hr1 (outI_set (z := z * z') (neg := true) (by rw [sign_mul _ _ HNEG.out HNEG'.out, HSG.out]) (by have := HGX.out; omega) ⟨_, _, HHX.out⟩ H1.out HB1.out k1)
      · have hd : decide ((0 : Int) < (n1 : Int)) = false := by simp; omega
        have HSG : Hid (((true != false) && decide (0 < (z * z').natAbs)) = false) := by rw [HSAME.out true, decide_eq_false hp]; rfl
        go_wp2_with fail
        exact end_intn rfl rfl rfl hr0 hr1 (outI_set (z := z * z') (neg := false) (by rw [sign_mul _ _ HNEG.out HNEG'.out, HSG.out]) (by have := HGX.out; omega) ⟨_, _, HHX.out⟩ H1.out HB1.out k1)
  | false =>
    cases neg' with
    | true =>
      by_cases hp : 0 < n1
      · have hd : decide ((0 : Int) < (n1 : Int)) = true := by simp; omega
        have HSG : Hid (((false != true) && decide (0 < (z * z').natAbs)) = true) := by rw [HSAME.out true, decide_eq_true hp]; rfl
        go_wp2_with fail
        exact end_intn rfl rfl rfl hr0 hr1 (outI_set (z := z * z') (neg := true) (by rw [sign_mul _ _ HNEG.out HNEG'.out, HSG.out]) (by have := HGX.out; omega) ⟨_, _, HHX.out⟩ H1.out HB1.out k1)
      · have hd : decide ((0 : Int) < (n1 : Int)) = false := by simp; omega
        have HSG : Hid (((false != true) && decide (0 < (z * z').natAbs)) = false) := by rw [HSAME.out true, decide_eq_false hp]; rfl
        go_wp2_with fail
        exact end_intn rfl rfl rfl hr0 hr1 (outI_set (z := z * z') (neg := false) (by rw [sign_mul _ _ HNEG.out HNEG'.out, HSG.out]) (by have := HGX.out; omega) ⟨_, _, HHX.out⟩ H1.out HB1.out k1)
    | false =>
      have HSG : Hid (((false != false) && decide (0 < (z * z').natAbs)) = false) := rfl
      go_wp2_with fail
      exact end_intn rfl rfl rfl hr0 hr1 (outI_set (z := z * z') (neg := false) (by rw [sign_mul _ _ HNEG.out HNEG'.out, HSG.out]) (by have := HGX.out; omega) ⟨_, _, HHX.out⟩ H1.out HB1.out k1)
set_option maxRecDepth 100000 in
set_option maxHeartbeats 2000000 in
theorem IADD_any (neg neg' : Bool) (A A' : Option Addr) (n c n' c' : Nat) (z z' : Int) (hn : n ≤ 1000000000000) (hn' : n' ≤ 1000000000000) (w : World) (B : Nat) (hB : B ≤ w.heap.size) (hh : Hid (IntAt w B neg A n c z)) (hh' : Hid (IntAt w B neg' A' n' c' z')) :
    Calls Tryd.prog 57 #[.agg #[.bool neg, .slice A n c], .agg #[.bool neg', .slice A' n' c']] w (OutI w (z + z') (max n n' + 1)) := by
  obtain ⟨W, gx, hW, hgx, HHW, HBX, HSW⟩ := boxes3 w (.cells #[.bool neg, .slice A n c] 43) (.cells #[.bool neg', .slice A' n' c'] 43) (.cells #[.bool false, .slice none 0 0] 43)
  have HGX := Lib.hid hgx
  have HNEG := Lib.hid hh.out.1
  have HNEG' := Lib.hid hh'.out.1
  obtain ⟨hx0, hx1, _, _⟩ := two_cells HHW.out.1
  obtain ⟨hy0, hx2, _, _⟩ := two_cells HHW.out.2.1
  have HHR := Lib.hid HHW.out.2.2
  have hgw := blk_lt HHW.out.2.2
  have HSX : w.heap.size ≤ W.heap.size := by have := HSW.out; omega
  have HNW := Lib.hid (hh.out.2.to HBX.out hB (by have := HSW.out; omega))
  have HNW' := Lib.hid (hh'.out.2.to HBX.out hB (by have := HSW.out; omega))
  cases neg with
  | true =>
    cases neg' with
    | true =>
      have HSG : Hid (true = decide (z + z' < 0)) := by have h1 := HNEG.out; have h2 := HNEG'.out; show _ = _; simp at h1 h2 ⊢; omega
      go_enter Tryd.func57, Tryd.ntmps57
      go_wp2_with fail
      rw [← hW, ← hgx]
      obtain ⟨Wx, rfl⟩ : ∃ Wx : World, Wx = W := ⟨_, rfl⟩
      clear hW hgx
      refine wp_region_text 8 (fun x => x.cell? ⟨gx, 0, none⟩ = some (.bool true) ∧ x.cell? ⟨gx, 1, none⟩ = some (.slice A n c) ∧ x.cell? ⟨gx + 1, 1, none⟩ = some (.slice A' n' c')) (by kernel_rfl) (by kernel_rfl) ?_
      have hS : Wx.drew.cell? ⟨gx, 0, none⟩ = some (.bool true) ∧ Wx.drew.cell? ⟨gx, 1, none⟩ = some (.slice A n c) ∧ Wx.drew.cell? ⟨gx + 1, 1, none⟩ = some (.slice A' n' c') := ⟨hx0, hx1, hx2⟩
      refine HT.take (i := 0) (oi := _) (v := ?_) rfl (by kernel_rfl) (by kernel_rfl) (by decide) (fun _ _ _ h => h) (Or.inl ⟨by rfl, ?_⟩) hS ?_
      rotate_left
      · intro wz
        go_simp
        try with_reducible rfl
      simp only [List.getElem_toArray, List.getElem_cons_succ, List.getElem_cons_zero, Act.put, List.setIfInBounds_toArray, List.set_cons_zero, List.set_cons_succ]
      refine HT.load (i := 1) (oi := _) (v := ?_) rfl (by kernel_rfl) (by kernel_rfl) (by decide) (fun _ _ _ h => h) (by kernel_rfl) (Or.inl ⟨by rfl, ?_⟩) hS ?_
      rotate_left
      · intro wz hwz
        try dsimp only at hwz
        go_simp
        try with_reducible rfl
      simp only [List.getElem_toArray, List.getElem_cons_succ, List.getElem_cons_zero, Act.put, List.setIfInBounds_toArray, List.set_cons_zero, List.set_cons_succ]
      refine HT.take (i := 2) (oi := _) (v := ?_) rfl (by kernel_rfl) (by kernel_rfl) (by decide) (fun _ _ _ h => h) (Or.inl ⟨by rfl, ?_⟩) hS ?_
      rotate_left
      · intro wz
        go_simp
        try with_reducible rfl
      simp only [List.getElem_toArray, List.getElem_cons_succ, List.getElem_cons_zero, Act.put, List.setIfInBounds_toArray, List.set_cons_zero, List.set_cons_succ]
      refine HT.load (i := 3) (oi := _) (v := ?_) rfl (by kernel_rfl) (by kernel_rfl) (by decide) (fun _ _ _ h => h) (by kernel_rfl) (Or.inl ⟨by rfl, ?_⟩) hS ?_
      rotate_left
      · intro wz hwz
        try dsimp only at hwz
        go_simp
        try with_reducible rfl
      simp only [List.getElem_toArray, List.getElem_cons_succ, List.getElem_cons_zero, Act.put, List.setIfInBounds_toArray, List.set_cons_zero, List.set_cons_succ]
      refine HT.take (i := 4) (oi := _) (v := ?_) rfl (by kernel_rfl) (by kernel_rfl) (by decide) (fun _ _ _ h => h) (Or.inl ⟨by rfl, ?_⟩) hS ?_
      rotate_left
      · intro wz
        go_simp
        try with_reducible rfl
      simp only [List.getElem_toArray, List.getElem_cons_succ, List.getElem_cons_zero, Act.put, List.setIfInBounds_toArray, List.set_cons_zero, List.set_cons_succ]
      refine HT.load (i := 5) (oi := _) (v := ?_) rfl (by kernel_rfl) (by kernel_rfl) (by decide) (fun _ _ _ h => h) (by kernel_rfl) (Or.inl ⟨by rfl, ?_⟩) hS ?_
      rotate_left
      · intro wz hwz
        try dsimp only at hwz
        go_simp
        try with_reducible rfl
      simp only [List.getElem_toArray, List.getElem_cons_succ, List.getElem_cons_zero, Act.put, List.setIfInBounds_toArray, List.set_cons_zero, List.set_cons_succ]
      refine HT.one (i := 6) (o := _) rfl (by kernel_rfl) (by decide) (by rfl) ?_
      intro K hK
      go_simp
      refine (NADD_any A A' n c _ n' c' _ hn hn' _ Wx.heap.size (by exact Nat.le_refl _) (by exact HNW) (by exact HNW')).mono ?_
      rintro e w1 ⟨A1, n1, c1, rfl, h1, k1, hb0⟩
      have hb1 : Below Wx.heap.size Wx w1 := ⟨hb0.os, hb0.tape, hb0.output, hb0.size, hb0.block⟩
      refine hK.out _ _ ⟨(hb1.cell (p := ⟨gx, 0, none⟩) (by dsimp only; omega)).trans hx0, (hb1.cell (p := ⟨gx, 1, none⟩) (by dsimp only; omega)).trans hx1, (hb1.cell (p := ⟨gx + 1, 1, none⟩) (by dsimp only; omega)).trans hx2⟩ ?_
      clear hK K hS
      have hS : w1.cell? ⟨gx, 0, none⟩ = some (.bool true) ∧ w1.cell? ⟨gx, 1, none⟩ = some (.slice A n c) ∧ w1.cell? ⟨gx + 1, 1, none⟩ = some (.slice A' n' c') := ⟨(hb1.cell (p := ⟨gx, 0, none⟩) (by dsimp only; omega)).trans hx0, (hb1.cell (p := ⟨gx, 1, none⟩) (by dsimp only; omega)).trans hx1, (hb1.cell (p := ⟨gx + 1, 1, none⟩) (by dsimp only; omega)).trans hx2⟩
      try simp only [List.getElem_toArray, List.getElem_cons_succ, List.getElem_cons_zero, Act.put, List.setIfInBounds_toArray, List.set_cons_zero, List.set_cons_succ]
      refine HT.take (i := 7) (oi := _) (v := ?_) rfl (by kernel_rfl) (by kernel_rfl) (by decide) (fun _ _ _ h => h) (Or.inl ⟨by rfl, ?_⟩) hS ?_
      rotate_left
      · intro wz
        go_simp
        try with_reducible rfl
      simp only [List.getElem_toArray, List.getElem_cons_succ, List.getElem_cons_zero, Act.put, List.setIfInBounds_toArray, List.set_cons_zero, List.set_cons_succ]
      have H1 := Lib.hid h1
      have HB1 := Lib.hid (HBX.out.trans (hb1.mono HSX))
      have hhx := (hb1.block (gx + 1 + 1) hgw).trans HHR.out
      obtain ⟨hr0, hr1, hf0, hf1⟩ := two_cells hhx
      have HHX := Lib.hid hhx
      clear hb0 hb1 h1 hhx
      refine HT.done (by kernel_rfl) ?_
      clear hS
      simp only [List.drop_succ_cons, List.drop_zero]
      go_wp2_with fail
      exact end_intn rfl rfl rfl hr0 hr1 (outI_set (z := z + z') (neg := true) HSG.out (by have := HGX.out; omega) ⟨_, _, HHX.out⟩ (by rw [show (z + z').natAbs = z.natAbs + z'.natAbs by have := HNEG.out; have := HNEG'.out; simp at *; omega]; exact H1.out) HB1.out (by omega))
    | false =>
      obtain ⟨k, hk⟩ : ∃ k, cmpN z.natAbs z'.natAbs = k := ⟨_, rfl⟩
      have HK := Lib.hid hk
      clear hk
      go_enter Tryd.func57, Tryd.ntmps57
      go_wp2_with fail
      rw [← hW, ← hgx]
      clear hW hgx
      refine (NCMP_below A A' n c _ n' c' _ _ W.heap.size HNW HNW').mono ?_
      rintro e Wx ⟨rfl, hb⟩
      rw [HK.out]
      have hx0 := (hb.cell (p := ⟨gx, 0, none⟩) (by dsimp only; omega)).trans hx0
      have hx1 := (hb.cell (p := ⟨gx, 1, none⟩) (by dsimp only; omega)).trans hx1
      have hy0 := (hb.cell (p := ⟨gx + 1, 0, none⟩) (by dsimp only; omega)).trans hy0
      have hx2 := (hb.cell (p := ⟨gx + 1, 1, none⟩) (by dsimp only; omega)).trans hx2
      have HHR := Lib.hid ((hb.block (gx + 1 + 1) hgw).trans HHR.out)
      have HNW := Lib.hid (HNW.out.to hb (Nat.le_refl _) hb.size)
      have HNW' := Lib.hid (HNW'.out.to hb (Nat.le_refl _) hb.size)
      have HBX := Lib.hid (HBX.out.trans (hb.mono HSX))
      have hgw := Nat.lt_of_lt_of_le hgw hb.size
      have HSX := Nat.le_trans HSX hb.size
      clear hb HSW HHW
      by_cases h1 : z.natAbs < z'.natAbs
      · obtain rfl : k = -1 := by rw [← HK.out]; exact cmpN_lt h1
        have HSG : Hid (false = decide (z + z' < 0)) := by have h1 := HNEG.out; have h2 := HNEG'.out; show _ = _; simp at h1 h2 ⊢; omega
        have hx0 := hy0
        have hle := Nat.le_of_lt h1
        have HLT := Lib.hid h1
        go_wp2_with fail
        refine wp_region_text 8 (fun x => x.cell? ⟨gx + 1, 0, none⟩ = some (.bool false) ∧ x.cell? ⟨gx, 1, none⟩ = some (.slice A n c) ∧ x.cell? ⟨gx + 1, 1, none⟩ = some (.slice A' n' c')) (by kernel_rfl) (by kernel_rfl) ?_
        have hS : Wx.drew.cell? ⟨gx + 1, 0, none⟩ = some (.bool false) ∧ Wx.drew.cell? ⟨gx, 1, none⟩ = some (.slice A n c) ∧ Wx.drew.cell? ⟨gx + 1, 1, none⟩ = some (.slice A' n' c') := ⟨hx0, hx1, hx2⟩
        refine HT.take (i := 0) (oi := _) (v := ?_) rfl (by kernel_rfl) (by kernel_rfl) (by decide) (fun _ _ _ h => h) (Or.inl ⟨by rfl, ?_⟩) hS ?_
        rotate_left
        · intro wz
          go_simp
          try with_reducible rfl
        simp only [List.getElem_toArray, List.getElem_cons_succ, List.getElem_cons_zero, Act.put, List.setIfInBounds_toArray, List.set_cons_zero, List.set_cons_succ]
        refine HT.load (i := 1) (oi := _) (v := ?_) rfl (by kernel_rfl) (by kernel_rfl) (by decide) (fun _ _ _ h => h) (by kernel_rfl) (Or.inl ⟨by rfl, ?_⟩) hS ?_
        rotate_left
        · intro wz hwz
          try dsimp only at hwz
          go_simp
          try with_reducible rfl
        simp only [List.getElem_toArray, List.getElem_cons_succ, List.getElem_cons_zero, Act.put, List.setIfInBounds_toArray, List.set_cons_zero, List.set_cons_succ]
        refine HT.take (i := 2) (oi := _) (v := ?_) rfl (by kernel_rfl) (by kernel_rfl) (by decide) (fun _ _ _ h => h) (Or.inl ⟨by rfl, ?_⟩) hS ?_
        rotate_left
        · intro wz
          go_simp
          try with_reducible rfl
        simp only [List.getElem_toArray, List.getElem_cons_succ, List.getElem_cons_zero, Act.put, List.setIfInBounds_toArray, List.set_cons_zero, List.set_cons_succ]
        refine HT.load (i := 3) (oi := _) (v := ?_) rfl (by kernel_rfl) (by kernel_rfl) (by decide) (fun _ _ _ h => h) (by kernel_rfl) (Or.inl ⟨by rfl, ?_⟩) hS ?_
        rotate_left
        · intro wz hwz
          try dsimp only at hwz
          go_simp
          try with_reducible rfl
        simp only [List.getElem_toArray, List.getElem_cons_succ, List.getElem_cons_zero, Act.put, List.setIfInBounds_toArray, List.set_cons_zero, List.set_cons_succ]
        refine HT.take (i := 4) (oi := _) (v := ?_) rfl (by kernel_rfl) (by kernel_rfl) (by decide) (fun _ _ _ h => h) (Or.inl ⟨by rfl, ?_⟩) hS ?_
        rotate_left
        · intro wz
          go_simp
          try with_reducible rfl
        simp only [List.getElem_toArray, List.getElem_cons_succ, List.getElem_cons_zero, Act.put, List.setIfInBounds_toArray, List.set_cons_zero, List.set_cons_succ]
        refine HT.load (i := 5) (oi := _) (v := ?_) rfl (by kernel_rfl) (by kernel_rfl) (by decide) (fun _ _ _ h => h) (by kernel_rfl) (Or.inl ⟨by rfl, ?_⟩) hS ?_
        rotate_left
        · intro wz hwz
          try dsimp only at hwz
          go_simp
          try with_reducible rfl
        simp only [List.getElem_toArray, List.getElem_cons_succ, List.getElem_cons_zero, Act.put, List.setIfInBounds_toArray, List.set_cons_zero, List.set_cons_succ]
        refine HT.one (i := 6) (o := _) rfl (by kernel_rfl) (by decide) (by rfl) ?_
        intro K hK
        go_simp
        refine (NSUB_any A' A n' c' _ n c _ hn' hle _ Wx.heap.size (by exact Nat.le_refl _) (by exact HNW') (by exact HNW)).mono ?_
        rintro e w1 ⟨A1, n1, c1, rfl, h1, k1, hb0⟩
        have hb1 : Below Wx.heap.size Wx w1 := ⟨hb0.os, hb0.tape, hb0.output, hb0.size, hb0.block⟩
        refine hK.out _ _ ⟨(hb1.cell (p := ⟨gx + 1, 0, none⟩) (by dsimp only; omega)).trans hx0, (hb1.cell (p := ⟨gx, 1, none⟩) (by dsimp only; omega)).trans hx1, (hb1.cell (p := ⟨gx + 1, 1, none⟩) (by dsimp only; omega)).trans hx2⟩ ?_
        clear hK K hS
        have hS : w1.cell? ⟨gx + 1, 0, none⟩ = some (.bool false) ∧ w1.cell? ⟨gx, 1, none⟩ = some (.slice A n c) ∧ w1.cell? ⟨gx + 1, 1, none⟩ = some (.slice A' n' c') := ⟨(hb1.cell (p := ⟨gx + 1, 0, none⟩) (by dsimp only; omega)).trans hx0, (hb1.cell (p := ⟨gx, 1, none⟩) (by dsimp only; omega)).trans hx1, (hb1.cell (p := ⟨gx + 1, 1, none⟩) (by dsimp only; omega)).trans hx2⟩
        try simp only [List.getElem_toArray, List.getElem_cons_succ, List.getElem_cons_zero, Act.put, List.setIfInBounds_toArray, List.set_cons_zero, List.set_cons_succ]
        refine HT.take (i := 7) (oi := _) (v := ?_) rfl (by kernel_rfl) (by kernel_rfl) (by decide) (fun _ _ _ h => h) (Or.inl ⟨by rfl, ?_⟩) hS ?_
        rotate_left
        · intro wz
          go_simp
          try with_reducible rfl
        simp only [List.getElem_toArray, List.getElem_cons_succ, List.getElem_cons_zero, Act.put, List.setIfInBounds_toArray, List.set_cons_zero, List.set_cons_succ]
        have H1 := Lib.hid h1
        have HB1 := Lib.hid (HBX.out.trans (hb1.mono HSX))
        have hhx := (hb1.block (gx + 1 + 1) hgw).trans HHR.out
        obtain ⟨hr0, hr1, hf0, hf1⟩ := two_cells hhx
        have HHX := Lib.hid hhx
        clear hb0 hb1 h1 hhx
        refine HT.done (by kernel_rfl) ?_
        clear hS
        simp only [List.drop_succ_cons, List.drop_zero]
        go_wp2_with fail
        exact end_intn rfl rfl rfl hr0 hr1 (outI_set (z := z + z') (neg := false) HSG.out (by have := HGX.out; omega) ⟨_, _, HHX.out⟩ (by rw [show (z + z').natAbs = z'.natAbs - z.natAbs by have := HNEG.out; have := HNEG'.out; have := HLT.out; simp at *; omega]; exact H1.out) HB1.out (by omega))
      by_cases h2 : z'.natAbs < z.natAbs
      · obtain rfl : k = 1 := by rw [← HK.out]; exact cmpN_gt h2
        have HSG : Hid (true = decide (z + z' < 0)) := by have h1 := HNEG.out; have h2 := HNEG'.out; show _ = _; simp at h1 h2 ⊢; omega
        have hle := Nat.le_of_lt h2
        have HLT := Lib.hid h2
        go_wp2_with fail
        refine wp_region_text 8 (fun x => x.cell? ⟨gx, 0, none⟩ = some (.bool true) ∧ x.cell? ⟨gx, 1, none⟩ = some (.slice A n c) ∧ x.cell? ⟨gx + 1, 1, none⟩ = some (.slice A' n' c')) (by kernel_rfl) (by kernel_rfl) ?_
        have hS : Wx.drew.cell? ⟨gx, 0, none⟩ = some (.bool true) ∧ Wx.drew.cell? ⟨gx, 1, none⟩ = some (.slice A n c) ∧ Wx.drew.cell? ⟨gx + 1, 1, none⟩ = some (.slice A' n' c') := ⟨hx0, hx1, hx2⟩
        refine HT.take (i := 0) (oi := _) (v := ?_) rfl (by kernel_rfl) (by kernel_rfl) (by decide) (fun _ _ _ h => h) (Or.inl ⟨by rfl, ?_⟩) hS ?_
        rotate_left
        · intro wz
          go_simp
          try with_reducible rfl
        simp only [List.getElem_toArray, List.getElem_cons_succ, List.getElem_cons_zero, Act.put, List.setIfInBounds_toArray, List.set_cons_zero, List.set_cons_succ]
        refine HT.load (i := 1) (oi := _) (v := ?_) rfl (by kernel_rfl) (by kernel_rfl) (by decide) (fun _ _ _ h => h) (by kernel_rfl) (Or.inl ⟨by rfl, ?_⟩) hS ?_
        rotate_left
        · intro wz hwz
          try dsimp only at hwz
          go_simp
          try with_reducible rfl
        simp only [List.getElem_toArray, List.getElem_cons_succ, List.getElem_cons_zero, Act.put, List.setIfInBounds_toArray, List.set_cons_zero, List.set_cons_succ]
        refine HT.take (i := 2) (oi := _) (v := ?_) rfl (by kernel_rfl) (by kernel_rfl) (by decide) (fun _ _ _ h => h) (Or.inl ⟨by rfl, ?_⟩) hS ?_
        rotate_left
        · intro wz
          go_simp
          try with_reducible rfl
        simp only [List.getElem_toArray, List.getElem_cons_succ, List.getElem_cons_zero, Act.put, List.setIfInBounds_toArray, List.set_cons_zero, List.set_cons_succ]
        refine HT.load (i := 3) (oi := _) (v := ?_) rfl (by kernel_rfl) (by kernel_rfl) (by decide) (fun _ _ _ h => h) (by kernel_rfl) (Or.inl ⟨by rfl, ?_⟩) hS ?_
        rotate_left
        · intro wz hwz
          try dsimp only at hwz
          go_simp
          try with_reducible rfl
        simp only [List.getElem_toArray, List.getElem_cons_succ, List.getElem_cons_zero, Act.put, List.setIfInBounds_toArray, List.set_cons_zero, List.set_cons_succ]
        refine HT.take (i := 4) (oi := _) (v := ?_) rfl (by kernel_rfl) (by kernel_rfl) (by decide) (fun _ _ _ h => h) (Or.inl ⟨by rfl, ?_⟩) hS ?_
        rotate_left
        · intro wz
          go_simp
          try with_reducible rfl
        simp only [List.getElem_toArray, List.getElem_cons_succ, List.getElem_cons_zero, Act.put, List.setIfInBounds_toArray, List.set_cons_zero, List.set_cons_succ]
        refine HT.load (i := 5) (oi := _) (v := ?_) rfl (by kernel_rfl) (by kernel_rfl) (by decide) (fun _ _ _ h => h) (by kernel_rfl) (Or.inl ⟨by rfl, ?_⟩) hS ?_
        rotate_left
        · intro wz hwz
          try dsimp only at hwz
          go_simp
          try with_reducible rfl
        simp only [List.getElem_toArray, List.getElem_cons_succ, List.getElem_cons_zero, Act.put, List.setIfInBounds_toArray, List.set_cons_zero, List.set_cons_succ]
        refine HT.one (i := 6) (o := _) rfl (by kernel_rfl) (by decide) (by rfl) ?_
        intro K hK
        go_simp
        refine (NSUB_any A A' n c _ n' c' _ hn hle _ Wx.heap.size (by exact Nat.le_refl _) (by exact HNW) (by exact HNW')).mono ?_
        rintro e w1 ⟨A1, n1, c1, rfl, h1, k1, hb0⟩
        have hb1 : Below Wx.heap.size Wx w1 := ⟨hb0.os, hb0.tape, hb0.output, hb0.size, hb0.block⟩
        refine hK.out _ _ ⟨(hb1.cell (p := ⟨gx, 0, none⟩) (by dsimp only; omega)).trans hx0, (hb1.cell (p := ⟨gx, 1, none⟩) (by dsimp only; omega)).trans hx1, (hb1.cell (p := ⟨gx + 1, 1, none⟩) (by dsimp only; omega)).trans hx2⟩ ?_
        clear hK K hS
        have hS : w1.cell? ⟨gx, 0, none⟩ = some (.bool true) ∧ w1.cell? ⟨gx, 1, none⟩ = some (.slice A n c) ∧ w1.cell? ⟨gx + 1, 1, none⟩ = some (.slice A' n' c') := ⟨(hb1.cell (p := ⟨gx, 0, none⟩) (by dsimp only; omega)).trans hx0, (hb1.cell (p := ⟨gx, 1, none⟩) (by dsimp only; omega)).trans hx1, (hb1.cell (p := ⟨gx + 1, 1, none⟩) (by dsimp only; omega)).trans hx2⟩
        try simp only [List.getElem_toArray, List.getElem_cons_succ, List.getElem_cons_zero, Act.put, List.setIfInBounds_toArray, List.set_cons_zero, List.set_cons_succ]
        refine HT.take (i := 7) (oi := _) (v := ?_) rfl (by kernel_rfl) (by kernel_rfl) (by decide) (fun _ _ _ h => h) (Or.inl ⟨by rfl, ?_⟩) hS ?_
        rotate_left
        · intro wz
          go_simp
          try with_reducible rfl
        simp only [List.getElem_toArray, List.getElem_cons_succ, List.getElem_cons_zero, Act.put, List.setIfInBounds_toArray, List.set_cons_zero, List.set_cons_succ]
        have H1 := Lib.hid h1
        have HB1 := Lib.hid (HBX.out.trans (hb1.mono HSX))
        have hhx := (hb1.block (gx + 1 + 1) hgw).trans HHR.out
        obtain ⟨hr0, hr1, hf0, hf1⟩ := two_cells hhx
        have HHX := Lib.hid hhx
        clear hb0 hb1 h1 hhx
        refine HT.done (by kernel_rfl) ?_
        clear hS
        simp only [List.drop_succ_cons, List.drop_zero]
        go_wp2_with fail
        exact end_intn rfl rfl rfl hr0 hr1 (outI_set (z := z + z') (neg := true) HSG.out (by have := HGX.out; omega) ⟨_, _, HHX.out⟩ (by rw [show (z + z').natAbs = z.natAbs - z'.natAbs by have := HNEG.out; have := HNEG'.out; have := HLT.out; simp at *; omega]; exact H1.out) HB1.out (by omega))
      · have he : z.natAbs = z'.natAbs := by omega
        obtain rfl : k = 0 := by rw [← HK.out]; exact cmpN_eq he
        have HZ : Hid (z + z' = 0) := by have h1 := HNEG.out; have h2 := HNEG'.out; show _ = _; simp at h1 h2; omega
        obtain ⟨hr0, hr1, hf0, hf1⟩ := two_cells HHR.out
        go_wp2_with fail
        exact end_intn rfl rfl rfl hr0 hr1 (outI_set (z := z + z') (neg := false) (by rw [HZ.out]; rfl) (by have := HGX.out; omega) ⟨_, _, HHR.out⟩ (by rw [HZ.out]; exact NumAt.nil _ _ _ _ _) HBX.out (Nat.zero_le _))
  | false =>
    cases neg' with
    | true =>
      obtain ⟨k, hk⟩ : ∃ k, cmpN z.natAbs z'.natAbs = k := ⟨_, rfl⟩
      have HK := Lib.hid hk
      clear hk
      go_enter Tryd.func57, Tryd.ntmps57
      go_wp2_with fail
      rw [← hW, ← hgx]
      clear hW hgx
      refine (NCMP_below A A' n c _ n' c' _ _ W.heap.size HNW HNW').mono ?_
      rintro e Wx ⟨rfl, hb⟩
      rw [HK.out]
      have hx0 := (hb.cell (p := ⟨gx, 0, none⟩) (by dsimp only; omega)).trans hx0
      have hx1 := (hb.cell (p := ⟨gx, 1, none⟩) (by dsimp only; omega)).trans hx1
      have hy0 := (hb.cell (p := ⟨gx + 1, 0, none⟩) (by dsimp only; omega)).trans hy0
      have hx2 := (hb.cell (p := ⟨gx + 1, 1, none⟩) (by dsimp only; omega)).trans hx2
      have HHR := Lib.hid ((hb.block (gx + 1 + 1) hgw).trans HHR.out)
      have HNW := Lib.hid (HNW.out.to hb (Nat.le_refl _) hb.size)
      have HNW' := Lib.hid (HNW'.out.to hb (Nat.le_refl _) hb.size)
      have HBX := Lib.hid (HBX.out.trans (hb.mono HSX))
      have hgw := Nat.lt_of_lt_of_le hgw hb.size
      have HSX := Nat.le_trans HSX hb.size
      clear hb HSW HHW
      by_cases h1 : z.natAbs < z'.natAbs
      · obtain rfl : k = -1 := by rw [← HK.out]; exact cmpN_lt h1
        have HSG : Hid (true = decide (z + z' < 0)) := by have h1 := HNEG.out; have h2 := HNEG'.out; show _ = _; simp at h1 h2 ⊢; omega
        have hx0 := hy0
        have hle := Nat.le_of_lt h1
        have HLT := Lib.hid h1
        go_wp2_with fail
        refine wp_region_text 8 (fun x => x.cell? ⟨gx + 1, 0, none⟩ = some (.bool true) ∧ x.cell? ⟨gx, 1, none⟩ = some (.slice A n c) ∧ x.cell? ⟨gx + 1, 1, none⟩ = some (.slice A' n' c')) (by kernel_rfl) (by kernel_rfl) ?_
        have hS : Wx.drew.cell? ⟨gx + 1, 0, none⟩ = some (.bool true) ∧ Wx.drew.cell? ⟨gx, 1, none⟩ = some (.slice A n c) ∧ Wx.drew.cell? ⟨gx + 1, 1, none⟩ = some (.slice A' n' c') := ⟨hx0, hx1, hx2⟩
        refine HT.take (i := 0) (oi := _) (v := ?_) rfl (by kernel_rfl) (by kernel_rfl) (by decide) (fun _ _ _ h => h) (Or.inl ⟨by rfl, ?_⟩) hS ?_
        rotate_left
        · intro wz
          go_simp
          try with_reducible rfl
        simp only [List.getElem_toArray, List.getElem_cons_succ, List.getElem_cons_zero, Act.put, List.setIfInBounds_toArray, List.set_cons_zero, List.set_cons_succ]
        refine HT.load (i := 1) (oi := _) (v := ?_) rfl (by kernel_rfl) (by kernel_rfl) (by decide) (fun _ _ _ h => h) (by kernel_rfl) (Or.inl ⟨by rfl, ?_⟩) hS ?_
        rotate_left
        · intro wz hwz
          try dsimp only at hwz
          go_simp
          try with_reducible rfl
        simp only [List.getElem_toArray, List.getElem_cons_succ, List.getElem_cons_zero, Act.put, List.setIfInBounds_toArray, List.set_cons_zero, List.set_cons_succ]
        refine HT.take (i := 2) (oi := _) (v := ?_) rfl (by kernel_rfl) (by kernel_rfl) (by decide) (fun _ _ _ h => h) (Or.inl ⟨by rfl, ?_⟩) hS ?_
        rotate_left
        · intro wz
          go_simp
          try with_reducible rfl
        simp only [List.getElem_toArray, List.getElem_cons_succ, List.getElem_cons_zero, Act.put, List.setIfInBounds_toArray, List.set_cons_zero, List.set_cons_succ]
        refine HT.load (i := 3) (oi := _) (v := ?_) rfl (by kernel_rfl) (by kernel_rfl) (by decide) (fun _ _ _ h => h) (by kernel_rfl) (Or.inl ⟨by rfl, ?_⟩) hS ?_
        rotate_left
        · intro wz hwz
          try dsimp only at hwz
          go_simp
          try with_reducible rfl
        simp only [List.getElem_toArray, List.getElem_cons_succ, List.getElem_cons_zero, Act.put, List.setIfInBounds_toArray, List.set_cons_zero, List.set_cons_succ]
        refine HT.take (i := 4) (oi := _) (v := ?_) rfl (by kernel_rfl) (by kernel_rfl) (by decide) (fun _ _ _ h => h) (Or.inl ⟨by rfl, ?_⟩) hS ?_
        rotate_left
        · intro wz
          go_simp
          try with_reducible rfl
        simp only [List.getElem_toArray, List.getElem_cons_succ, List.getElem_cons_zero, Act.put, List.setIfInBounds_toArray, List.set_cons_zero, List.set_cons_succ]
        refine HT.load (i := 5) (oi := _) (v := ?_) rfl (by kernel_rfl) (by kernel_rfl) (by decide) (fun _ _ _ h => h) (by kernel_rfl) (Or.inl ⟨by rfl, ?_⟩) hS ?_
        rotate_left
        · intro wz hwz
          try dsimp only at hwz
          go_simp
          try with_reducible rfl
        simp only [List.getElem_toArray, List.getElem_cons_succ, List.getElem_cons_zero, Act.put, List.setIfInBounds_toArray, List.set_cons_zero, List.set_cons_succ]
        refine HT.one (i := 6) (o := _) rfl (by kernel_rfl) (by decide) (by rfl) ?_
        intro K hK
        go_simp
        refine (NSUB_any A' A n' c' _ n c _ hn' hle _ Wx.heap.size (by exact Nat.le_refl _) (by exact HNW') (by exact HNW)).mono ?_
        rintro e w1 ⟨A1, n1, c1, rfl, h1, k1, hb0⟩
        have hb1 : Below Wx.heap.size Wx w1 := ⟨hb0.os, hb0.tape, hb0.output, hb0.size, hb0.block⟩
        refine hK.out _ _ ⟨(hb1.cell (p := ⟨gx + 1, 0, none⟩) (by dsimp only; omega)).trans hx0, (hb1.cell (p := ⟨gx, 1, none⟩) (by dsimp only; omega)).trans hx1, (hb1.cell (p := ⟨gx + 1, 1, none⟩) (by dsimp only; omega)).trans hx2⟩ ?_
        clear hK K hS
        have hS : w1.cell? ⟨gx + 1, 0, none⟩ = some (.bool true) ∧ w1.cell? ⟨gx, 1, none⟩ = some (.slice A n c) ∧ w1.cell? ⟨gx + 1, 1, none⟩ = some (.slice A' n' c') := ⟨(hb1.cell (p := ⟨gx + 1, 0, none⟩) (by dsimp only; omega)).trans hx0, (hb1.cell (p := ⟨gx, 1, none⟩) (by dsimp only; omega)).trans hx1, (hb1.cell (p := ⟨gx + 1, 1, none⟩) (by dsimp only; omega)).trans hx2⟩
        try simp only [List.getElem_toArray, List.getElem_cons_succ, List.getElem_cons_zero, Act.put, List.setIfInBounds_toArray, List.set_cons_zero, List.set_cons_succ]
        refine HT.take (i := 7) (oi := _) (v := ?_) rfl (by kernel_rfl) (by kernel_rfl) (by decide) (fun _ _ _ h => h) (Or.inl ⟨by rfl, ?_⟩) hS ?_
        rotate_left
        · intro wz
          go_simp
          try with_reducible rfl
        simp only [List.getElem_toArray, List.getElem_cons_succ, List.getElem_cons_zero, Act.put, List.setIfInBounds_toArray, List.set_cons_zero, List.set_cons_succ]
        have H1 := Lib.hid h1
        have HB1 := Lib.hid (HBX.out.trans (hb1.mono HSX))
        have hhx := (hb1.block (gx + 1 + 1) hgw).trans HHR.out
        obtain ⟨hr0, hr1, hf0, hf1⟩ := two_cells hhx
        have HHX := Lib.hid hhx
        clear hb0 hb1 h1 hhx
        refine HT.done (by kernel_rfl) ?_
        clear hS
        simp only [List.drop_succ_cons, List.drop_zero]
        go_wp2_with fail
        exact end_intn rfl rfl rfl hr0 hr1 (outI_set (z := z + z') (neg := true) HSG.out (by have := HGX.out; omega) ⟨_, _, HHX.out⟩ (by rw [show (z + z').natAbs = z'.natAbs - z.natAbs by have := HNEG.out; have := HNEG'.out; have := HLT.out; simp at *; omega]; exact H1.out) HB1.out (by omega))
      by_cases h2 : z'.natAbs < z.natAbs
      · obtain rfl : k = 1 := by rw [← HK.out]; exact cmpN_gt h2
        have HSG : Hid (false = decide (z + z' < 0)) := by have h1 := HNEG.out; have h2 := HNEG'.out; show _ = _; simp at h1 h2 ⊢; omega
        have hle := Nat.le_of_lt h2
        have HLT := Lib.hid h2
        go_wp2_with fail
        refine wp_region_text 8 (fun x => x.cell? ⟨gx, 0, none⟩ = some (.bool false) ∧ x.cell? ⟨gx, 1, none⟩ = some (.slice A n c) ∧ x.cell? ⟨gx + 1, 1, none⟩ = some (.slice A' n' c')) (by kernel_rfl) (by kernel_rfl) ?_
        have hS : Wx.drew.cell? ⟨gx, 0, none⟩ = some (.bool false) ∧ Wx.drew.cell? ⟨gx, 1, none⟩ = some (.slice A n c) ∧ Wx.drew.cell? ⟨gx + 1, 1, none⟩ = some (.slice A' n' c') := ⟨hx0, hx1, hx2⟩
        refine HT.take (i := 0) (oi := _) (v := ?_) rfl (by kernel_rfl) (by kernel_rfl) (by decide) (fun _ _ _ h => h) (Or.inl ⟨by rfl, ?_⟩) hS ?_
        rotate_left
        · intro wz
          go_simp
          try with_reducible rfl
        simp only [List.getElem_toArray, List.getElem_cons_succ, List.getElem_cons_zero, Act.put, List.setIfInBounds_toArray, List.set_cons_zero, List.set_cons_succ]
        refine HT.load (i := 1) (oi := _) (v := ?_) rfl (by kernel_rfl) (by kernel_rfl) (by decide) (fun _ _ _ h => h) (by kernel_rfl) (Or.inl ⟨by rfl, ?_⟩) hS ?_
        rotate_left
        · intro wz hwz
          try dsimp only at hwz
          go_simp
          try with_reducible rfl
        simp only [List.getElem_toArray, List.getElem_cons_succ, List.getElem_cons_zero, Act.put, List.setIfInBounds_toArray, List.set_cons_zero, List.set_cons_succ]
        refine HT.take (i := 2) (oi := _) (v := ?_) rfl (by kernel_rfl) (by kernel_rfl) (by decide) (fun _ _ _ h => h) (Or.inl ⟨by rfl, ?_⟩) hS ?_
        rotate_left
        · intro wz
          go_simp
          try with_reducible rfl
        simp only [List.getElem_toArray, List.getElem_cons_succ, List.getElem_cons_zero, Act.put, List.setIfInBounds_toArray, List.set_cons_zero, List.set_cons_succ]
        refine HT.load (i := 3) (oi := _) (v := ?_) rfl (by kernel_rfl) (by kernel_rfl) (by decide) (fun _ _ _ h => h) (by kernel_rfl) (Or.inl ⟨by rfl, ?_⟩) hS ?_
        rotate_left
        · intro wz hwz
          try dsimp only at hwz
          go_simp
          try with_reducible rfl
        simp only [List.getElem_toArray, List.getElem_cons_succ, List.getElem_cons_zero, Act.put, List.setIfInBounds_toArray, List.set_cons_zero, List.set_cons_succ]
        refine HT.take (i := 4) (oi := _) (v := ?_) rfl (by kernel_rfl) (by kernel_rfl) (by decide) (fun _ _ _ h => h) (Or.inl ⟨by rfl, ?_⟩) hS ?_
        rotate_left
        · intro wz
          go_simp
          try with_reducible rfl
        simp only [List.getElem_toArray, List.getElem_cons_succ, List.getElem_cons_zero, Act.put, List.setIfInBounds_toArray, List.set_cons_zero, List.set_cons_succ]
        refine HT.load (i := 5) (oi := _) (v := ?_) rfl (by kernel_rfl) (by kernel_rfl) (by decide) (fun _ _ _ h => h) (by kernel_rfl) (Or.inl ⟨by rfl, ?_⟩) hS ?_
        rotate_left
        · intro wz hwz
          try dsimp only at hwz
          go_simp
          try with_reducible rfl
        simp only [List.getElem_toArray, List.getElem_cons_succ, List.getElem_cons_zero, Act.put, List.setIfInBounds_toArray, List.set_cons_zero, List.set_cons_succ]
        refine HT.one (i := 6) (o := _) rfl (by kernel_rfl) (by decide) (by rfl) ?_
        intro K hK
        go_simp
        refine (NSUB_any A A' n c _ n' c' _ hn hle _ Wx.heap.size (by exact Nat.le_refl _) (by exact HNW) (by exact HNW')).mono ?_
        rintro e w1 ⟨A1, n1, c1, rfl, h1, k1, hb0⟩
        have hb1 : Below Wx.heap.size Wx w1 := ⟨hb0.os, hb0.tape, hb0.output, hb0.size, hb0.block⟩
        refine hK.out _ _ ⟨(hb1.cell (p := ⟨gx, 0, none⟩) (by dsimp only; omega)).trans hx0, (hb1.cell (p := ⟨gx, 1, none⟩) (by dsimp only; omega)).trans hx1, (hb1.cell (p := ⟨gx + 1, 1, none⟩) (by dsimp only; omega)).trans hx2⟩ ?_
        clear hK K hS
        have hS : w1.cell? ⟨gx, 0, none⟩ = some (.bool false) ∧ w1.cell? ⟨gx, 1, none⟩ = some (.slice A n c) ∧ w1.cell? ⟨gx + 1, 1, none⟩ = some (.slice A' n' c') := ⟨(hb1.cell (p := ⟨gx, 0, none⟩) (by dsimp only; omega)).trans hx0, (hb1.cell (p := ⟨gx, 1, none⟩) (by dsimp only; omega)).trans hx1, (hb1.cell (p := ⟨gx + 1, 1, none⟩) (by dsimp only; omega)).trans hx2⟩
        try simp only [List.getElem_toArray, List.getElem_cons_succ, List.getElem_cons_zero, Act.put, List.setIfInBounds_toArray, List.set_cons_zero, List.set_cons_succ]
        refine HT.take (i := 7) (oi := _) (v := ?_) rfl (by kernel_rfl) (by kernel_rfl) (by decide) (fun _ _ _ h => h) (Or.inl ⟨by rfl, ?_⟩) hS ?_
        rotate_left
        · intro wz
          go_simp
          try with_reducible rfl
        simp only [List.getElem_toArray, List.getElem_cons_succ, List.getElem_cons_zero, Act.put, List.setIfInBounds_toArray, List.set_cons_zero, List.set_cons_succ]
        have H1 := Lib.hid h1
        have HB1 := Lib.hid (HBX.out.trans (hb1.mono HSX))
        have hhx := (hb1.block (gx + 1 + 1) hgw).trans HHR.out
        obtain ⟨hr0, hr1, hf0, hf1⟩ := two_cells hhx
        have HHX := Lib.hid hhx
        clear hb0 hb1 h1 hhx
        refine HT.done (by kernel_rfl) ?_
        clear hS
        simp only [List.drop_succ_cons, List.drop_zero]
        go_wp2_with fail
        exact end_intn rfl rfl rfl hr0 hr1 (outI_set (z := z + z') (neg := false) HSG.out (by have := HGX.out; omega) ⟨_, _, HHX.out⟩ (by rw [show (z + z').natAbs = z.natAbs - z'.natAbs by have := HNEG.out; have := HNEG'.out; have := HLT.out; simp at *; omega]; exact H1.out) HB1.out (by omega))
      · have he : z.natAbs = z'.natAbs := by omega
        obtain rfl : k = 0 := by rw [← HK.out]; exact cmpN_eq he
        have HZ : Hid (z + z' = 0) := by have h1 := HNEG.out; have h2 := HNEG'.out; show _ = _; simp at h1 h2; omega
        obtain ⟨hr0, hr1, hf0, hf1⟩ := two_cells HHR.out
        go_wp2_with fail
        exact end_intn rfl rfl rfl hr0 hr1 (outI_set (z := z + z') (neg := false) (by rw [HZ.out]; rfl) (by have := HGX.out; omega) ⟨_, _, HHR.out⟩ (by rw [HZ.out]; exact NumAt.nil _ _ _ _ _) HBX.out (Nat.zero_le _))
    | false =>
      have HSG : Hid (false = decide (z + z' < 0)) := by have h1 := HNEG.out; have h2 := HNEG'.out; show _ = _; simp at h1 h2 ⊢; omega
      go_enter Tryd.func57, Tryd.ntmps57
      go_wp2_with fail
      rw [← hW, ← hgx]
      obtain ⟨Wx, rfl⟩ : ∃ Wx : World, Wx = W := ⟨_, rfl⟩
      clear hW hgx
      refine wp_region_text 8 (fun x => x.cell? ⟨gx, 0, none⟩ = some (.bool false) ∧ x.cell? ⟨gx, 1, none⟩ = some (.slice A n c) ∧ x.cell? ⟨gx + 1, 1, none⟩ = some (.slice A' n' c')) (by kernel_rfl) (by kernel_rfl) ?_
      have hS : Wx.drew.cell? ⟨gx, 0, none⟩ = some (.bool false) ∧ Wx.drew.cell? ⟨gx, 1, none⟩ = some (.slice A n c) ∧ Wx.drew.cell? ⟨gx + 1, 1, none⟩ = some (.slice A' n' c') := ⟨hx0, hx1, hx2⟩
      refine HT.take (i := 0) (oi := _) (v := ?_) rfl (by kernel_rfl) (by kernel_rfl) (by decide) (fun _ _ _ h => h) (Or.inl ⟨by rfl, ?_⟩) hS ?_
      rotate_left
      · intro wz
        go_simp
        try with_reducible rfl
      simp only [List.getElem_toArray, List.getElem_cons_succ, List.getElem_cons_zero, Act.put, List.setIfInBounds_toArray, List.set_cons_zero, List.set_cons_succ]
      refine HT.load (i := 1) (oi := _) (v := ?_) rfl (by kernel_rfl) (by kernel_rfl) (by decide) (fun _ _ _ h => h) (by kernel_rfl) (Or.inl ⟨by rfl, ?_⟩) hS ?_
      rotate_left
      · intro wz hwz
        try dsimp only at hwz
        go_simp
        try with_reducible rfl
      simp only [List.getElem_toArray, List.getElem_cons_succ, List.getElem_cons_zero, Act.put, List.setIfInBounds_toArray, List.set_cons_zero, List.set_cons_succ]
      refine HT.take (i := 2) (oi := _) (v := ?_) rfl (by kernel_rfl) (by kernel_rfl) (by decide) (fun _ _ _ h => h) (Or.inl ⟨by rfl, ?_⟩) hS ?_
      rotate_left
      · intro wz
        go_simp
        try with_reducible rfl
      simp only [List.getElem_toArray, List.getElem_cons_succ, List.getElem_cons_zero, Act.put, List.setIfInBounds_toArray, List.set_cons_zero, List.set_cons_succ]
      refine HT.load (i := 3) (oi := _) (v := ?_) rfl (by kernel_rfl) (by kernel_rfl) (by decide) (fun _ _ _ h => h) (by kernel_rfl) (Or.inl ⟨by rfl, ?_⟩) hS ?_
      rotate_left
      · intro wz hwz
        try dsimp only at hwz
        go_simp
        try with_reducible rfl
      simp only [List.getElem_toArray, List.getElem_cons_succ, List.getElem_cons_zero, Act.put, List.setIfInBounds_toArray, List.set_cons_zero, List.set_cons_succ]
      refine HT.take (i := 4) (oi := _) (v := ?_) rfl (by kernel_rfl) (by kernel_rfl) (by decide) (fun _ _ _ h => h) (Or.inl ⟨by rfl, ?_⟩) hS ?_
      rotate_left
      · intro wz
        go_simp
        try with_reducible rfl
      simp only [List.getElem_toArray, List.getElem_cons_succ, List.getElem_cons_zero, Act.put, List.setIfInBounds_toArray, List.set_cons_zero, List.set_cons_succ]
      refine HT.load (i := 5) (oi := _) (v := ?_) rfl (by kernel_rfl) (by kernel_rfl) (by decide) (fun _ _ _ h => h) (by kernel_rfl) (Or.inl ⟨by rfl, ?_⟩) hS ?_
      rotate_left
      · intro wz hwz
        try dsimp only at hwz
        go_simp
        try with_reducible rfl
      simp only [List.getElem_toArray, List.getElem_cons_succ, List.getElem_cons_zero, Act.put, List.setIfInBounds_toArray, List.set_cons_zero, List.set_cons_succ]
      refine HT.one (i := 6) (o := _) rfl (by kernel_rfl) (by decide) (by rfl) ?_
      intro K hK
      go_simp
      refine (NADD_any A A' n c _ n' c' _ hn hn' _ Wx.heap.size (by exact Nat.le_refl _) (by exact HNW) (by exact HNW')).mono ?_
      rintro e w1 ⟨A1, n1, c1, rfl, h1, k1, hb0⟩
      have hb1 : Below Wx.heap.size Wx w1 := ⟨hb0.os, hb0.tape, hb0.output, hb0.size, hb0.block⟩
      refine hK.out _ _ ⟨(hb1.cell (p := ⟨gx, 0, none⟩) (by dsimp only; omega)).trans hx0, (hb1.cell (p := ⟨gx, 1, none⟩) (by dsimp only; omega)).trans hx1, (hb1.cell (p := ⟨gx + 1, 1, none⟩) (by dsimp only; omega)).trans hx2⟩ ?_
      clear hK K hS
      have hS : w1.cell? ⟨gx, 0, none⟩ = some (.bool false) ∧ w1.cell? ⟨gx, 1, none⟩ = some (.slice A n c) ∧ w1.cell? ⟨gx + 1, 1, none⟩ = some (.slice A' n' c') := ⟨(hb1.cell (p := ⟨gx, 0, none⟩) (by dsimp only; omega)).trans hx0, (hb1.cell (p := ⟨gx, 1, none⟩) (by dsimp only; omega)).trans hx1, (hb1.cell (p := ⟨gx + 1, 1, none⟩) (by dsimp only; omega)).trans hx2⟩
      try simp only [List.getElem_toArray, List.getElem_cons_succ, List.getElem_cons_zero, Act.put, List.setIfInBounds_toArray, List.set_cons_zero, List.set_cons_succ]
      refine HT.take (i := 7) (oi := _) (v := ?_) rfl (by kernel_rfl) (by kernel_rfl) (by decide) (fun _ _ _ h => h) (Or.inl ⟨by rfl, ?_⟩) hS ?_
      rotate_left
      · intro wz
        go_simp
        try with_reducible rfl
      simp only [List.getElem_toArray, List.getElem_cons_succ, List.getElem_cons_zero, Act.put, List.setIfInBounds_toArray, List.set_cons_zero, List.set_cons_succ]
      have H1 := Lib.hid h1
      have HB1 := Lib.hid (HBX.out.trans (hb1.mono HSX))
      have hhx := (hb1.block (gx + 1 + 1) hgw).trans HHR.out
      obtain ⟨hr0, hr1, hf0, hf1⟩ := two_cells hhx
      have HHX := Lib.hid hhx
      clear hb0 hb1 h1 hhx
      refine HT.done (by kernel_rfl) ?_
      clear hS
      simp only [List.drop_succ_cons, List.drop_zero]
      go_wp2_with fail
      exact end_intn rfl rfl rfl hr0 hr1 (outI_set (z := z + z') (neg := false) HSG.out (by have := HGX.out; omega) ⟨_, _, HHX.out⟩ (by rw [show (z + z').natAbs = z.natAbs + z'.natAbs by have := HNEG.out; have := HNEG'.out; simp at *; omega]; exact H1.out) HB1.out (by omega))
end Go.Proofs.YtcjdmffflepplaaDoor
