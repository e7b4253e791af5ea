/- The document's Fit. -/
import Derived.Test.YtocbogdjlapogaaGreatDoorRfs
import Derived.Test.YtocbogdjlapogaaGreatDoorZb
import Derived.Test.YtocbogdjlapogaaGreatDoorYr
import Derived.Test.YtocbogdjlapogaaGreatDoorYr
import Derived.Test.YtocbogdjlapogaaGreatDoorYs
import Derived.Deep.CutBlock
set_option linter.unusedSimpArgs false
set_option linter.unusedVariables false
namespace Go.Proofs.YtocbogdjlapogaaGreatDoor
open Go.RowKit Go.Dw Go.Joins
set_option maxRecDepth 100000 in
set_option maxHeartbeats 16000000 in
theorem RFIT_ok (A : Option Addr) (n c : Nat) (l : List Pr) (wo : World) (hto : Hid (TabAt wo)) (B : Nat) (hBo : B ≤ wo.heap.size) (hho : Hid (PrsAt wo B A n l)) (HCK : Hid (chkP l = 0)) :
    Calls Tryz.prog 5 #[.slice A n c] wo fun e w' => e = .returned (.tuple #[.agg #[.string (txN (fitA l)), .string (txD (fitA l)), .string (txN (fitB l)), .string (txD (fitB l))], .int .i64 0]) ∧ Below wo.heap.size wo w' := by
  have hl := Lib.hid hho.out.1
  obtain ⟨hn2, hn5⟩ := chkP_ok HCK.out
  have HRG := Lib.hid (chkP_rng HCK.out).1
  have HSZ := Lib.hid (fit_sizes HCK.out)
  have HFM := Lib.hid (fit_means (by omega) (fit_disc HCK.out))
  have HFS := Lib.hid (fit_small HCK.out)
  rw [hl.out] at hn2 hn5
  have HNZ : Hid ((((n : Int) : Rat)) ≠ 0) := fun h => by
    have h9 := Rat.intCast_eq_zero_iff.1 h
    omega
  go_enter Tryz.func5, Tryz.ntmps5
  go_upto_region 1 with (fail)
  obtain ⟨w, gl, hw, hgl, HHL, HBL, HSL⟩ := cell_new0 wo 26 #[.string ⟨#[]⟩, .string ⟨#[]⟩, .string ⟨#[]⟩, .string ⟨#[]⟩]
  rw [← hw, ← hgl]
  have hh : Hid (PrsAt w B A n l) := hho.out.below HBL.out hBo
  have ht : Hid (TabAt w) := hto.out.below HBL.out
  have hB : B ≤ w.heap.size := by have := HBL.out.size; omega
  have hglo : wo.heap.size ≤ gl := by omega
  clear hw hgl HSL hho hBo hto
  go_upto_region 4 with (go_at_call 18; refine (RCHECKPAIRS_any A n c l _ B hB hh).mono ?_; rintro e w1 ⟨rfl, hb1⟩; rw [HCK.out])
  have HB1 : Hid (Below w.heap.size w w1) := hb1
  clear hb1
  go_wp2_with fail
  refine (RINT_any 0 (by decide) (by decide) _ (Lib.hid (ht.out.below HB1.out))).mono ?_
  rintro e w2 ⟨ng1, A1, n1, c1, D1, d1, e1, rfl, h1, _, _, hb2⟩
  have HB2 := Lib.hid (HB1.out.trans (hb2.mono HB1.out.size))
  have H1 := Lib.hid h1
  clear hb2 h1
  go_wp2_with fail
  refine (RINT_any 0 (by decide) (by decide) _ (Lib.hid (ht.out.below HB2.out))).mono ?_
  rintro e w3 ⟨ng2, A2, n2, c2, D2, d2, e2, rfl, h2, _, _, hb3⟩
  have H1' := Lib.hid (H1.out.to hb3 (Nat.le_refl _) hb3.size)
  have HB3 := Lib.hid (HB2.out.trans (hb3.mono HB2.out.size))
  have H2 := Lib.hid h2
  clear hb3 h2 H1
  go_upto_region 5 with (fail)
  obtain ⟨W5, g5, hW5, hg5, HG5, HBW5, HSW5⟩ := boxes2 w3 (.cells #[.bool ng1, .slice A1 n1 c1, .slice D1 d1 e1] 50) (.cells #[.bool ng2, .slice A2 n2 c2, .slice D2 d2 e2] 50)
  obtain ⟨g6, hg6⟩ : ∃ g, g = g5 + 1 := ⟨_, rfl⟩
  rw [← hg6] at HG5
  have D56 : Hid (g5 ≠ g6) := by show _ ≠ _; omega
  have hs3 := HB3.out.size
  have G5 : Hid (w.heap.size ≤ g5) := by show _ ≤ _; omega
  have G6 : Hid (w.heap.size ≤ g6) := by show _ ≤ _; omega
  have IA : Hid (RBox W5 g5 (sumA l 0)) := ⟨_, _, _, _, _, _, _, HG5.out.1, H1'.out.to HBW5.out (Nat.le_refl _) HBW5.out.size⟩
  have IB : Hid (RBox W5 g6 (sumB l 0)) := ⟨_, _, _, _, _, _, _, HG5.out.2, H2.out.to HBW5.out (Nat.le_refl _) HBW5.out.size⟩
  have HBA := Lib.hid (HB3.out.trans (HBW5.out.mono hs3))
  rw [← hW5, ← hg5, ← hg6]
  clear hW5 hg5 hg6 HG5 HBW5 HSW5 H1' H2 HB1 HB2 HB3 hs3
  go_upto_block 0 with (fail)
  go_cut [] (fun wx => Hid (RBox wx g5 (sumA l n)) ∧ Hid (RBox wx g6 (sumB l n)) ∧ Hid (Below w.heap.size w wx))
  case first =>
    go_wp2_with fail
    go_loopw [7] (fun i wr => ∃ k : Nat, k ≤ n ∧ i = .int .i64 k ∧ Hid (RBox wr g5 (sumA l k)) ∧ Hid (RBox wr g6 (sumB l k)) ∧ Hid (Below w.heap.size w wr)) (fun i _ => n - (intOf i).toNat)
    case atStart => exact ⟨0, Nat.zero_le _, rfl, IA, IB, HBA⟩
    case round =>
      clear IA IB HBA
      obtain ⟨k, hk, rfl, IA, IB, HBA⟩ := hrel
      by_cases hlt : k < n
      · obtain ⟨bA, oA, rfl, hbA, k1, k2⟩ := (hh.out.below (HBA.out.mono hB) (Nat.le_refl _)).2 k hlt
        have hsw := HBA.out.size
        have hbAw : bA < wr.heap.size := by omega
        obtain ⟨⟨rg1, rg2⟩, rg3, rg4⟩ := HRG.out k (by rw [hl.out]; exact hlt)
        have SX := Lib.hid (sumA_succ l k)
        have SY := Lib.hid (sumB_succ l k)
        unfold prA at SX
        unfold prB at SY
        obtain ⟨p, hp⟩ : ∃ p, prOf l k = p := ⟨_, rfl⟩
        obtain ⟨x, y⟩ := p
        rw [hp] at k1 k2 rg1 rg2 rg3 rg4 SX SY
        dsimp only at k1 k2 rg1 rg2 rg3 rg4 SX SY
        have hk0 : (0 : Int) ≤ (k : Int) := by omega
        have hkn : (k : Int) < (n : Int) := by omega
        have hkk : k ≤ l.length := by rw [hl.out]; omega
        have HTB : Hid (TabAt wr) := ht.out.below HBA.out
        obtain ⟨W, rfl⟩ : ∃ x : World, x = wr := ⟨_, rfl⟩
        clear hp
        obtain ⟨ngU, AU, nU, cU, DU, dU, eU, bU, hU⟩ := IA.out
        have HBU := Lib.hid bU
        have HU := Lib.hid hU
        obtain ⟨jU, jU'⟩ := numR_le hU (HSZ.out.2.2.2.2.1 k hkk)
        obtain ⟨qU0, qU1, qU2, _, _, _⟩ := r3_cells bU
        clear bU hU
        obtain ⟨ngV, AV, nV, cV, DV, dV, eV, bV, hV⟩ := IB.out
        have HBV := Lib.hid bV
        have HV := Lib.hid hV
        obtain ⟨jV, jV'⟩ := numR_le hV (HSZ.out.2.2.2.2.2 k hkk)
        obtain ⟨qV0, qV1, qV2, _, _, _⟩ := r3_cells bV
        clear bV hV
        clear IA IB
        go_upto_region 8 with (fail)
        refine wp_region_head 16 (fun x9 => x9.cell? ⟨g5, 0, none⟩ = some (.bool ngU) ∧ x9.cell? ⟨g5, 1, none⟩ = some (.slice AU nU cU) ∧ x9.cell? ⟨g5, 2, none⟩ = some (.slice DU dU eU) ∧ x9.cell? ⟨g6, 0, none⟩ = some (.bool ngV) ∧ x9.cell? ⟨g6, 1, none⟩ = some (.slice AV nV cV) ∧ x9.cell? ⟨g6, 2, none⟩ = some (.slice DV dV eV) ∧ x9.cell? ⟨bA, oA + k * 2, none⟩ = some (.int .i64 x) ∧ x9.cell? ⟨bA, oA + k * 2 + 1, none⟩ = some (.int .i64 y)) (by kernel_rfl) (by kernel_rfl) ?_
        obtain ⟨wc, hwc⟩ : ∃ x : World, x = W.drew := ⟨_, rfl⟩
        have hbn : Below W.heap.size W W.drew := (Below.refl _ _).drew
        have HU := Lib.hid (HU.out.to hbn (Nat.le_refl _) hbn.size)
        have HV := Lib.hid (HV.out.to hbn (Nat.le_refl _) hbn.size)
        have HTB := Lib.hid (HTB.out.below hbn)
        clear hbn
        have HBc : Hid (Below W.heap.size W wc) := by show Below _ _ _; rw [hwc]; exact (Below.refl _ _).drew
        have hS : wc.cell? ⟨g5, 0, none⟩ = some (.bool ngU) ∧ wc.cell? ⟨g5, 1, none⟩ = some (.slice AU nU cU) ∧ wc.cell? ⟨g5, 2, none⟩ = some (.slice DU dU eU) ∧ wc.cell? ⟨g6, 0, none⟩ = some (.bool ngV) ∧ wc.cell? ⟨g6, 1, none⟩ = some (.slice AV nV cV) ∧ wc.cell? ⟨g6, 2, none⟩ = some (.slice DV dV eV) ∧ wc.cell? ⟨bA, oA + k * 2, none⟩ = some (.int .i64 x) ∧ wc.cell? ⟨bA, oA + k * 2 + 1, none⟩ = some (.int .i64 y) := by rw [hwc]; exact ⟨qU0, qU1, qU2, qV0, qV1, qV2, k1, k2⟩
        have hg_0 : g5 < wc.heap.size := by rw [hwc]; exact blk_lt HBU.out
        have hg_1 : g6 < wc.heap.size := by rw [hwc]; exact blk_lt HBV.out
        have hg_2 : bA < wc.heap.size := by rw [hwc]; exact hbAw
        rw [← hwc] at HU HV HTB
        rw [← hwc]
        clear hwc
        refine HL.take (i := 0) (oi := _) (v := ?_) rfl (by kernel_rfl) (by kernel_rfl) (by decide) (fun _ _ _ h => h) (Or.inl ⟨by rfl, ?_⟩) hS ?_
        rotate_left
        · intro wz hwz
          try dsimp only at hwz
          go_simp
          try with_reducible rfl
        simp only [List.getElem_toArray, List.getElem_cons_succ, List.getElem_cons_zero, Act.put, List.setIfInBounds_toArray, List.set_cons_zero, List.set_cons_succ]
        refine HL.take (i := 1) (oi := _) (v := ?_) rfl (by kernel_rfl) (by kernel_rfl) (by decide) (fun _ _ _ h => h) (Or.inl ⟨by rfl, ?_⟩) hS ?_
        rotate_left
        · intro wz hwz
          try dsimp only at hwz
          go_simp
          try with_reducible rfl
        simp only [List.getElem_toArray, List.getElem_cons_succ, List.getElem_cons_zero, Act.put, List.setIfInBounds_toArray, List.set_cons_zero, List.set_cons_succ]
        refine HL.take (i := 2) (oi := _) (v := ?_) rfl (by kernel_rfl) (by kernel_rfl) (by decide) (fun _ _ _ h => h) (Or.inl ⟨by rfl, ?_⟩) hS ?_
        rotate_left
        · intro wz hwz
          try dsimp only at hwz
          go_simp
          try with_reducible rfl
        simp only [List.getElem_toArray, List.getElem_cons_succ, List.getElem_cons_zero, Act.put, List.setIfInBounds_toArray, List.set_cons_zero, List.set_cons_succ]
        refine HL.take (i := 3) (oi := _) (v := ?_) rfl (by kernel_rfl) (by kernel_rfl) (by decide) (fun _ _ _ h => h) (Or.inl ⟨by rfl, ?_⟩) hS ?_
        rotate_left
        · intro wz hwz
          try dsimp only at hwz
          go_simp
          try with_reducible rfl
        simp only [List.getElem_toArray, List.getElem_cons_succ, List.getElem_cons_zero, Act.put, List.setIfInBounds_toArray, List.set_cons_zero, List.set_cons_succ]
        refine HL.take (i := 4) (oi := _) (v := ?_) rfl (by kernel_rfl) (by kernel_rfl) (by decide) (fun _ _ _ h => h) (Or.inl ⟨by rfl, ?_⟩) hS ?_
        rotate_left
        · intro wz hwz
          try dsimp only at hwz
          go_simp
          try with_reducible rfl
        simp only [List.getElem_toArray, List.getElem_cons_succ, List.getElem_cons_zero, Act.put, List.setIfInBounds_toArray, List.set_cons_zero, List.set_cons_succ]
        refine HL.take (i := 5) (oi := _) (v := ?_) rfl (by kernel_rfl) (by kernel_rfl) (by decide) (fun _ _ _ h => h) (Or.inl ⟨by rfl, ?_⟩) hS ?_
        rotate_left
        · intro wz hwz
          try dsimp only at hwz
          go_simp
          try with_reducible rfl
        simp only [List.getElem_toArray, List.getElem_cons_succ, List.getElem_cons_zero, Act.put, List.setIfInBounds_toArray, List.set_cons_zero, List.set_cons_succ]
        refine HL.take (i := 8) (oi := _) (v := ?_) rfl (by kernel_rfl) (by kernel_rfl) (by decide) (fun _ _ _ h => h) (Or.inl ⟨by rfl, ?_⟩) hS ?_
        rotate_left
        · intro wz hwz
          try dsimp only at hwz
          go_simp
          try with_reducible rfl
        simp only [List.getElem_toArray, List.getElem_cons_succ, List.getElem_cons_zero, Act.put, List.setIfInBounds_toArray, List.set_cons_zero, List.set_cons_succ]
        refine HL.take (i := 9) (oi := _) (v := ?_) rfl (by kernel_rfl) (by kernel_rfl) (by decide) (fun _ _ _ h => h) (Or.inl ⟨by rfl, ?_⟩) hS ?_
        rotate_left
        · intro wz hwz
          try dsimp only at hwz
          go_simp
          try with_reducible rfl
        simp only [List.getElem_toArray, List.getElem_cons_succ, List.getElem_cons_zero, Act.put, List.setIfInBounds_toArray, List.set_cons_zero, List.set_cons_succ]
        refine HL.take (i := 10) (oi := _) (v := ?_) rfl (by kernel_rfl) (by kernel_rfl) (by decide) (fun _ _ _ h => h) (Or.inl ⟨by rfl, ?_⟩) hS ?_
        rotate_left
        · intro wz hwz
          try dsimp only at hwz
          go_simp
          try with_reducible rfl
        simp only [List.getElem_toArray, List.getElem_cons_succ, List.getElem_cons_zero, Act.put, List.setIfInBounds_toArray, List.set_cons_zero, List.set_cons_succ]
        refine HL.take (i := 11) (oi := _) (v := ?_) rfl (by kernel_rfl) (by kernel_rfl) (by decide) (fun _ _ _ h => h) (Or.inl ⟨by rfl, ?_⟩) hS ?_
        rotate_left
        · intro wz hwz
          try dsimp only at hwz
          go_simp
          try with_reducible rfl
        simp only [List.getElem_toArray, List.getElem_cons_succ, List.getElem_cons_zero, Act.put, List.setIfInBounds_toArray, List.set_cons_zero, List.set_cons_succ]
        refine HL.take (i := 12) (oi := _) (v := ?_) rfl (by kernel_rfl) (by kernel_rfl) (by decide) (fun _ _ _ h => h) (Or.inl ⟨by rfl, ?_⟩) hS ?_
        rotate_left
        · intro wz hwz
          try dsimp only at hwz
          go_simp
          try with_reducible rfl
        simp only [List.getElem_toArray, List.getElem_cons_succ, List.getElem_cons_zero, Act.put, List.setIfInBounds_toArray, List.set_cons_zero, List.set_cons_succ]
        refine HL.take (i := 13) (oi := _) (v := ?_) rfl (by kernel_rfl) (by kernel_rfl) (by decide) (fun _ _ _ h => h) (Or.inl ⟨by rfl, ?_⟩) hS ?_
        rotate_left
        · intro wz hwz
          try dsimp only at hwz
          go_simp
          try with_reducible rfl
        simp only [List.getElem_toArray, List.getElem_cons_succ, List.getElem_cons_zero, Act.put, List.setIfInBounds_toArray, List.set_cons_zero, List.set_cons_succ]
        refine HL.one (i := 6) (o := _) rfl (by kernel_rfl) (by decide) (by rfl) ?_
        intro K hK
        go_simp
        refine (RINT_any x (by omega) (by omega) _ HTB).mono ?_
        rintro e wn ⟨ng1, A1, n1, c1, D1, d1, e1, rfl, hH1, k1, m1, hbn⟩
        have H1 := Lib.hid hH1
        clear hH1
        replace HU := Lib.hid (HU.out.to hbn (Nat.le_refl _) hbn.size)
        replace HV := Lib.hid (HV.out.to hbn (Nat.le_refl _) hbn.size)
        replace HTB := Lib.hid (HTB.out.below hbn)
        have HBn := Lib.hid (HBc.out.trans (hbn.mono HBc.out.size))
        have hSn : wn.cell? ⟨g5, 0, none⟩ = some (.bool ngU) ∧ wn.cell? ⟨g5, 1, none⟩ = some (.slice AU nU cU) ∧ wn.cell? ⟨g5, 2, none⟩ = some (.slice DU dU eU) ∧ wn.cell? ⟨g6, 0, none⟩ = some (.bool ngV) ∧ wn.cell? ⟨g6, 1, none⟩ = some (.slice AV nV cV) ∧ wn.cell? ⟨g6, 2, none⟩ = some (.slice DV dV eV) ∧ wn.cell? ⟨bA, oA + k * 2, none⟩ = some (.int .i64 x) ∧ wn.cell? ⟨bA, oA + k * 2 + 1, none⟩ = some (.int .i64 y) := ⟨(hbn.cell (p := ⟨g5, 0, none⟩) hg_0).trans hS.1, (hbn.cell (p := ⟨g5, 1, none⟩) hg_0).trans hS.2.1, (hbn.cell (p := ⟨g5, 2, none⟩) hg_0).trans hS.2.2.1, (hbn.cell (p := ⟨g6, 0, none⟩) hg_1).trans hS.2.2.2.1, (hbn.cell (p := ⟨g6, 1, none⟩) hg_1).trans hS.2.2.2.2.1, (hbn.cell (p := ⟨g6, 2, none⟩) hg_1).trans hS.2.2.2.2.2.1, (hbn.cell (p := ⟨bA, oA + k * 2, none⟩) hg_2).trans hS.2.2.2.2.2.2.1, (hbn.cell (p := ⟨bA, oA + k * 2 + 1, none⟩) hg_2).trans hS.2.2.2.2.2.2.2⟩
        have hgn_0 := Nat.lt_of_lt_of_le hg_0 hbn.size
        have hgn_1 := Nat.lt_of_lt_of_le hg_1 hbn.size
        have hgn_2 := Nat.lt_of_lt_of_le hg_2 hbn.size
        refine hK.out _ _ hSn ?_
        clear hK K hS HBc hg_0 hg_1 hg_2
        try simp only [List.getElem_toArray, List.getElem_cons_succ, List.getElem_cons_zero, Act.put, List.setIfInBounds_toArray, List.set_cons_zero, List.set_cons_succ]
        have hS := hSn
        have HBc := HBn
        have hg_0 := hgn_0
        have hg_1 := hgn_1
        have hg_2 := hgn_2
        clear hSn HBn hbn hgn_0 hgn_1 hgn_2
        obtain ⟨wc, rfl⟩ : ∃ x : World, x = wn := ⟨_, rfl⟩
        refine HL.one (i := 7) (o := _) rfl (by kernel_rfl) (by decide) (by rfl) ?_
        intro K hK
        go_simp
        refine (RPLUS_any ngU ng1 AU A1 DU D1 nU cU dU eU n1 c1 d1 e1 _ _ (by omega) (by omega) (by omega) (by omega) _ wc.heap.size (Nat.le_refl _) HU H1).mono ?_
        rintro e wn ⟨ng2, A2, n2, c2, D2, d2, e2, rfl, hH2, k2, m2, hbn⟩
        have H2 := Lib.hid hH2
        clear hH2
        clear HU H1
        replace HV := Lib.hid (HV.out.to hbn (Nat.le_refl _) hbn.size)
        replace HTB := Lib.hid (HTB.out.below hbn)
        have HBn := Lib.hid (HBc.out.trans (hbn.mono HBc.out.size))
        have hSn : wn.cell? ⟨g5, 0, none⟩ = some (.bool ngU) ∧ wn.cell? ⟨g5, 1, none⟩ = some (.slice AU nU cU) ∧ wn.cell? ⟨g5, 2, none⟩ = some (.slice DU dU eU) ∧ wn.cell? ⟨g6, 0, none⟩ = some (.bool ngV) ∧ wn.cell? ⟨g6, 1, none⟩ = some (.slice AV nV cV) ∧ wn.cell? ⟨g6, 2, none⟩ = some (.slice DV dV eV) ∧ wn.cell? ⟨bA, oA + k * 2, none⟩ = some (.int .i64 x) ∧ wn.cell? ⟨bA, oA + k * 2 + 1, none⟩ = some (.int .i64 y) := ⟨(hbn.cell (p := ⟨g5, 0, none⟩) hg_0).trans hS.1, (hbn.cell (p := ⟨g5, 1, none⟩) hg_0).trans hS.2.1, (hbn.cell (p := ⟨g5, 2, none⟩) hg_0).trans hS.2.2.1, (hbn.cell (p := ⟨g6, 0, none⟩) hg_1).trans hS.2.2.2.1, (hbn.cell (p := ⟨g6, 1, none⟩) hg_1).trans hS.2.2.2.2.1, (hbn.cell (p := ⟨g6, 2, none⟩) hg_1).trans hS.2.2.2.2.2.1, (hbn.cell (p := ⟨bA, oA + k * 2, none⟩) hg_2).trans hS.2.2.2.2.2.2.1, (hbn.cell (p := ⟨bA, oA + k * 2 + 1, none⟩) hg_2).trans hS.2.2.2.2.2.2.2⟩
        have hgn_0 := Nat.lt_of_lt_of_le hg_0 hbn.size
        have hgn_1 := Nat.lt_of_lt_of_le hg_1 hbn.size
        have hgn_2 := Nat.lt_of_lt_of_le hg_2 hbn.size
        refine hK.out _ _ hSn ?_
        clear hK K hS HBc hg_0 hg_1 hg_2
        try simp only [List.getElem_toArray, List.getElem_cons_succ, List.getElem_cons_zero, Act.put, List.setIfInBounds_toArray, List.set_cons_zero, List.set_cons_succ]
        have hS := hSn
        have HBc := HBn
        have hg_0 := hgn_0
        have hg_1 := hgn_1
        have hg_2 := hgn_2
        clear hSn HBn hbn hgn_0 hgn_1 hgn_2
        obtain ⟨wc, rfl⟩ : ∃ x : World, x = wn := ⟨_, rfl⟩
        refine HL.one (i := 14) (o := _) rfl (by kernel_rfl) (by decide) (by rfl) ?_
        intro K hK
        go_simp
        refine (RINT_any y (by omega) (by omega) _ HTB).mono ?_
        rintro e wn ⟨ng3, A3, n3, c3, D3, d3, e3, rfl, hH3, k3, m3, hbn⟩
        have H3 := Lib.hid hH3
        clear hH3
        clear HTB
        replace HV := Lib.hid (HV.out.to hbn (Nat.le_refl _) hbn.size)
        replace H2 := Lib.hid (H2.out.to hbn (Nat.le_refl _) hbn.size)
        have HBn := Lib.hid (HBc.out.trans (hbn.mono HBc.out.size))
        have hSn : wn.cell? ⟨g5, 0, none⟩ = some (.bool ngU) ∧ wn.cell? ⟨g5, 1, none⟩ = some (.slice AU nU cU) ∧ wn.cell? ⟨g5, 2, none⟩ = some (.slice DU dU eU) ∧ wn.cell? ⟨g6, 0, none⟩ = some (.bool ngV) ∧ wn.cell? ⟨g6, 1, none⟩ = some (.slice AV nV cV) ∧ wn.cell? ⟨g6, 2, none⟩ = some (.slice DV dV eV) ∧ wn.cell? ⟨bA, oA + k * 2, none⟩ = some (.int .i64 x) ∧ wn.cell? ⟨bA, oA + k * 2 + 1, none⟩ = some (.int .i64 y) := ⟨(hbn.cell (p := ⟨g5, 0, none⟩) hg_0).trans hS.1, (hbn.cell (p := ⟨g5, 1, none⟩) hg_0).trans hS.2.1, (hbn.cell (p := ⟨g5, 2, none⟩) hg_0).trans hS.2.2.1, (hbn.cell (p := ⟨g6, 0, none⟩) hg_1).trans hS.2.2.2.1, (hbn.cell (p := ⟨g6, 1, none⟩) hg_1).trans hS.2.2.2.2.1, (hbn.cell (p := ⟨g6, 2, none⟩) hg_1).trans hS.2.2.2.2.2.1, (hbn.cell (p := ⟨bA, oA + k * 2, none⟩) hg_2).trans hS.2.2.2.2.2.2.1, (hbn.cell (p := ⟨bA, oA + k * 2 + 1, none⟩) hg_2).trans hS.2.2.2.2.2.2.2⟩
        have hgn_0 := Nat.lt_of_lt_of_le hg_0 hbn.size
        have hgn_1 := Nat.lt_of_lt_of_le hg_1 hbn.size
        have hgn_2 := Nat.lt_of_lt_of_le hg_2 hbn.size
        refine hK.out _ _ hSn ?_
        clear hK K hS HBc hg_0 hg_1 hg_2
        try simp only [List.getElem_toArray, List.getElem_cons_succ, List.getElem_cons_zero, Act.put, List.setIfInBounds_toArray, List.set_cons_zero, List.set_cons_succ]
        have hS := hSn
        have HBc := HBn
        have hg_0 := hgn_0
        have hg_1 := hgn_1
        have hg_2 := hgn_2
        clear hSn HBn hbn hgn_0 hgn_1 hgn_2
        obtain ⟨wc, rfl⟩ : ∃ x : World, x = wn := ⟨_, rfl⟩
        refine HL.one (i := 15) (o := _) rfl (by kernel_rfl) (by decide) (by rfl) ?_
        intro K hK
        go_simp
        refine (RPLUS_any ngV ng3 AV A3 DV D3 nV cV dV eV n3 c3 d3 e3 _ _ (by omega) (by omega) (by omega) (by omega) _ wc.heap.size (Nat.le_refl _) HV H3).mono ?_
        rintro e wn ⟨ng4, A4, n4, c4, D4, d4, e4, rfl, hH4, k4, m4, hbn⟩
        have H4 := Lib.hid hH4
        clear hH4
        clear HV H3
        replace H2 := Lib.hid (H2.out.to hbn (Nat.le_refl _) hbn.size)
        have HBn := Lib.hid (HBc.out.trans (hbn.mono HBc.out.size))
        have hSn : wn.cell? ⟨g5, 0, none⟩ = some (.bool ngU) ∧ wn.cell? ⟨g5, 1, none⟩ = some (.slice AU nU cU) ∧ wn.cell? ⟨g5, 2, none⟩ = some (.slice DU dU eU) ∧ wn.cell? ⟨g6, 0, none⟩ = some (.bool ngV) ∧ wn.cell? ⟨g6, 1, none⟩ = some (.slice AV nV cV) ∧ wn.cell? ⟨g6, 2, none⟩ = some (.slice DV dV eV) ∧ wn.cell? ⟨bA, oA + k * 2, none⟩ = some (.int .i64 x) ∧ wn.cell? ⟨bA, oA + k * 2 + 1, none⟩ = some (.int .i64 y) := ⟨(hbn.cell (p := ⟨g5, 0, none⟩) hg_0).trans hS.1, (hbn.cell (p := ⟨g5, 1, none⟩) hg_0).trans hS.2.1, (hbn.cell (p := ⟨g5, 2, none⟩) hg_0).trans hS.2.2.1, (hbn.cell (p := ⟨g6, 0, none⟩) hg_1).trans hS.2.2.2.1, (hbn.cell (p := ⟨g6, 1, none⟩) hg_1).trans hS.2.2.2.2.1, (hbn.cell (p := ⟨g6, 2, none⟩) hg_1).trans hS.2.2.2.2.2.1, (hbn.cell (p := ⟨bA, oA + k * 2, none⟩) hg_2).trans hS.2.2.2.2.2.2.1, (hbn.cell (p := ⟨bA, oA + k * 2 + 1, none⟩) hg_2).trans hS.2.2.2.2.2.2.2⟩
        have hgn_0 := Nat.lt_of_lt_of_le hg_0 hbn.size
        have hgn_1 := Nat.lt_of_lt_of_le hg_1 hbn.size
        have hgn_2 := Nat.lt_of_lt_of_le hg_2 hbn.size
        refine hK.out _ _ hSn ?_
        clear hK K hS HBc hg_0 hg_1 hg_2
        try simp only [List.getElem_toArray, List.getElem_cons_succ, List.getElem_cons_zero, Act.put, List.setIfInBounds_toArray, List.set_cons_zero, List.set_cons_succ]
        have hS := hSn
        have HBc := HBn
        have hg_0 := hgn_0
        have hg_1 := hgn_1
        have hg_2 := hgn_2
        clear hSn HBn hbn hgn_0 hgn_1 hgn_2
        obtain ⟨wc, rfl⟩ : ∃ x : World, x = wn := ⟨_, rfl⟩
        have E1 := Lib.hid ((HBc.out.block g5 (blk_lt HBU.out)).trans HBU.out)
        have E2 := Lib.hid ((HBc.out.block g6 (blk_lt HBV.out)).trans HBV.out)
        obtain ⟨r50, r51, r52, f50, f51, f52⟩ := r3_cells E1.out
        obtain ⟨r60, r61, r62, f60, f61, f62⟩ := r3_cells E2.out
        refine HL.done (by kernel_rfl) ?_
        clear hS
        simp only [List.drop_succ_cons, List.drop_zero]
        obtain ⟨V, hV, R1, R2, RF, RB⟩ := rbox_two E1.out E2.out D56.out H2.out H4.out
        have hd1 : ¬ g5 = g6 := D56.out
        have hd2 : ¬ g6 = g5 := Ne.symm D56.out
        have HBV2 : Hid (Below w.heap.size w V) := RB.out _ _ G5.out G6.out (HBA.out.trans (HBc.out.mono HBA.out.size))
        clear E1 E2 HBU HBV H2 H4 RF RB
        go_wp2_with fail
        rw [← hV]
        clear hV r50 r51 r52 r60 r61 r62 f50 f51 f52 f60 f61 f62
        go_roundw
        case rel => exact ⟨k + 1, by omega, by go_num, by rw [SX.out]; exact R1, by rw [SY.out]; exact R2, HBV2⟩
        case measure => simp [intOf]; omega
        -- H2 H4
      · obtain rfl : k = n := by omega
        go_wp2_with fail
        go_meet
        exact ⟨IA, IB, HBA⟩
  case rest =>
  clear IA IB HBA
  obtain ⟨IA, IB, HBA⟩ := hcut
  obtain ⟨W, rfl⟩ : ∃ x : World, x = wc := ⟨_, rfl⟩
  go_upto_region 9 with (fail)
  go_cut [] (fun wx => Hid (RBox wx g5 (meanA l)) ∧ Hid (RBox wx g6 (meanB l)) ∧ Hid (Below w.heap.size w wx))
  case first =>
    have HTB : Hid (TabAt W) := ht.out.below HBA.out
    have hkk : n ≤ l.length := by rw [hl.out]; exact Nat.le_refl _
    have EMA : Hid (sumA l n / ((n : Int) : Rat) = meanA l) := by show _ = _; unfold meanA; rw [hl.out]
    have EMB : Hid (sumB l n / ((n : Int) : Rat) = meanB l) := by show _ = _; unfold meanB; rw [hl.out]
    obtain ⟨ngU, AU, nU, cU, DU, dU, eU, bU, hU⟩ := IA.out
    have HBU := Lib.hid bU
    have HU := Lib.hid hU
    obtain ⟨jU, jU'⟩ := numR_le hU (HSZ.out.2.2.2.2.1 n hkk)
    obtain ⟨qU0, qU1, qU2, _, _, _⟩ := r3_cells bU
    clear bU hU
    obtain ⟨ngV, AV, nV, cV, DV, dV, eV, bV, hV⟩ := IB.out
    have HBV := Lib.hid bV
    have HV := Lib.hid hV
    obtain ⟨jV, jV'⟩ := numR_le hV (HSZ.out.2.2.2.2.2 n hkk)
    obtain ⟨qV0, qV1, qV2, _, _, _⟩ := r3_cells bV
    clear bV hV
    clear IA IB
    refine wp_region_head 10 (fun x9 => x9.cell? ⟨g5, 0, none⟩ = some (.bool ngU) ∧ x9.cell? ⟨g5, 1, none⟩ = some (.slice AU nU cU) ∧ x9.cell? ⟨g5, 2, none⟩ = some (.slice DU dU eU) ∧ x9.cell? ⟨g6, 0, none⟩ = some (.bool ngV) ∧ x9.cell? ⟨g6, 1, none⟩ = some (.slice AV nV cV) ∧ x9.cell? ⟨g6, 2, none⟩ = some (.slice DV dV eV)) (by kernel_rfl) (by kernel_rfl) ?_
    obtain ⟨wc, hwc⟩ : ∃ x : World, x = W.drew := ⟨_, rfl⟩
    have hbn : Below W.heap.size W W.drew := (Below.refl _ _).drew
    have HU := Lib.hid (HU.out.to hbn (Nat.le_refl _) hbn.size)
    have HV := Lib.hid (HV.out.to hbn (Nat.le_refl _) hbn.size)
    have HTB := Lib.hid (HTB.out.below hbn)
    clear hbn
    have HBc : Hid (Below W.heap.size W wc) := by show Below _ _ _; rw [hwc]; exact (Below.refl _ _).drew
    have hS : wc.cell? ⟨g5, 0, none⟩ = some (.bool ngU) ∧ wc.cell? ⟨g5, 1, none⟩ = some (.slice AU nU cU) ∧ wc.cell? ⟨g5, 2, none⟩ = some (.slice DU dU eU) ∧ wc.cell? ⟨g6, 0, none⟩ = some (.bool ngV) ∧ wc.cell? ⟨g6, 1, none⟩ = some (.slice AV nV cV) ∧ wc.cell? ⟨g6, 2, none⟩ = some (.slice DV dV eV) := by rw [hwc]; exact ⟨qU0, qU1, qU2, qV0, qV1, qV2⟩
    have hg_0 : g5 < wc.heap.size := by rw [hwc]; exact blk_lt HBU.out
    have hg_1 : g6 < wc.heap.size := by rw [hwc]; exact blk_lt HBV.out
    rw [← hwc] at HU HV HTB
    rw [← hwc]
    clear hwc
    refine HL.take (i := 0) (oi := _) (v := ?_) rfl (by kernel_rfl) (by kernel_rfl) (by decide) (fun _ _ _ h => h) (Or.inl ⟨by rfl, ?_⟩) hS ?_
    rotate_left
    · intro wz hwz
      try dsimp only at hwz
      go_simp
      try with_reducible rfl
    simp only [List.getElem_toArray, List.getElem_cons_succ, List.getElem_cons_zero, Act.put, List.setIfInBounds_toArray, List.set_cons_zero, List.set_cons_succ]
    refine HL.take (i := 1) (oi := _) (v := ?_) rfl (by kernel_rfl) (by kernel_rfl) (by decide) (fun _ _ _ h => h) (Or.inl ⟨by rfl, ?_⟩) hS ?_
    rotate_left
    · intro wz hwz
      try dsimp only at hwz
      go_simp
      try with_reducible rfl
    simp only [List.getElem_toArray, List.getElem_cons_succ, List.getElem_cons_zero, Act.put, List.setIfInBounds_toArray, List.set_cons_zero, List.set_cons_succ]
    refine HL.take (i := 2) (oi := _) (v := ?_) rfl (by kernel_rfl) (by kernel_rfl) (by decide) (fun _ _ _ h => h) (Or.inl ⟨by rfl, ?_⟩) hS ?_
    rotate_left
    · intro wz hwz
      try dsimp only at hwz
      go_simp
      try with_reducible rfl
    simp only [List.getElem_toArray, List.getElem_cons_succ, List.getElem_cons_zero, Act.put, List.setIfInBounds_toArray, List.set_cons_zero, List.set_cons_succ]
    refine HL.take (i := 5) (oi := _) (v := ?_) rfl (by kernel_rfl) (by kernel_rfl) (by decide) (fun _ _ _ h => h) (Or.inl ⟨by rfl, ?_⟩) hS ?_
    rotate_left
    · intro wz hwz
      try dsimp only at hwz
      go_simp
      try with_reducible rfl
    simp only [List.getElem_toArray, List.getElem_cons_succ, List.getElem_cons_zero, Act.put, List.setIfInBounds_toArray, List.set_cons_zero, List.set_cons_succ]
    refine HL.take (i := 6) (oi := _) (v := ?_) rfl (by kernel_rfl) (by kernel_rfl) (by decide) (fun _ _ _ h => h) (Or.inl ⟨by rfl, ?_⟩) hS ?_
    rotate_left
    · intro wz hwz
      try dsimp only at hwz
      go_simp
      try with_reducible rfl
    simp only [List.getElem_toArray, List.getElem_cons_succ, List.getElem_cons_zero, Act.put, List.setIfInBounds_toArray, List.set_cons_zero, List.set_cons_succ]
    refine HL.take (i := 7) (oi := _) (v := ?_) rfl (by kernel_rfl) (by kernel_rfl) (by decide) (fun _ _ _ h => h) (Or.inl ⟨by rfl, ?_⟩) hS ?_
    rotate_left
    · intro wz hwz
      try dsimp only at hwz
      go_simp
      try with_reducible rfl
    simp only [List.getElem_toArray, List.getElem_cons_succ, List.getElem_cons_zero, Act.put, List.setIfInBounds_toArray, List.set_cons_zero, List.set_cons_succ]
    refine HL.one (i := 3) (o := _) rfl (by kernel_rfl) (by decide) (by rfl) ?_
    intro K hK
    go_simp
    refine (RINT_any n (by omega) (by omega) _ HTB).mono ?_
    rintro e wn ⟨ng1, A1, n1, c1, D1, d1, e1, rfl, hH1, k1, m1, hbn⟩
    have H1 := Lib.hid hH1
    clear hH1
    replace HU := Lib.hid (HU.out.to hbn (Nat.le_refl _) hbn.size)
    replace HV := Lib.hid (HV.out.to hbn (Nat.le_refl _) hbn.size)
    replace HTB := Lib.hid (HTB.out.below hbn)
    have HBn := Lib.hid (HBc.out.trans (hbn.mono HBc.out.size))
    have hSn : wn.cell? ⟨g5, 0, none⟩ = some (.bool ngU) ∧ wn.cell? ⟨g5, 1, none⟩ = some (.slice AU nU cU) ∧ wn.cell? ⟨g5, 2, none⟩ = some (.slice DU dU eU) ∧ wn.cell? ⟨g6, 0, none⟩ = some (.bool ngV) ∧ wn.cell? ⟨g6, 1, none⟩ = some (.slice AV nV cV) ∧ wn.cell? ⟨g6, 2, none⟩ = some (.slice DV dV eV) := ⟨(hbn.cell (p := ⟨g5, 0, none⟩) hg_0).trans hS.1, (hbn.cell (p := ⟨g5, 1, none⟩) hg_0).trans hS.2.1, (hbn.cell (p := ⟨g5, 2, none⟩) hg_0).trans hS.2.2.1, (hbn.cell (p := ⟨g6, 0, none⟩) hg_1).trans hS.2.2.2.1, (hbn.cell (p := ⟨g6, 1, none⟩) hg_1).trans hS.2.2.2.2.1, (hbn.cell (p := ⟨g6, 2, none⟩) hg_1).trans hS.2.2.2.2.2⟩
    have hgn_0 := Nat.lt_of_lt_of_le hg_0 hbn.size
    have hgn_1 := Nat.lt_of_lt_of_le hg_1 hbn.size
    refine hK.out _ _ hSn ?_
    clear hK K hS HBc hg_0 hg_1
    try simp only [List.getElem_toArray, List.getElem_cons_succ, List.getElem_cons_zero, Act.put, List.setIfInBounds_toArray, List.set_cons_zero, List.set_cons_succ]
    have hS := hSn
    have HBc := HBn
    have hg_0 := hgn_0
    have hg_1 := hgn_1
    clear hSn HBn hbn hgn_0 hgn_1
    obtain ⟨wc, rfl⟩ : ∃ x : World, x = wn := ⟨_, rfl⟩
    refine HL.one (i := 4) (o := _) rfl (by kernel_rfl) (by decide) (by rfl) ?_
    intro K hK
    go_simp
    refine (ROVER_any ngU ng1 AU A1 DU D1 nU cU dU eU n1 c1 d1 e1 _ _ (by omega) (by omega) (by omega) (by omega) HNZ.out _ wc.heap.size (Nat.le_refl _) HU H1).mono ?_
    rintro e wn ⟨ng2, A2, n2, c2, D2, d2, e2, rfl, hH2, k2, m2, hbn⟩
    have H2 := Lib.hid hH2
    clear hH2
    clear HU H1
    replace HV := Lib.hid (HV.out.to hbn (Nat.le_refl _) hbn.size)
    replace HTB := Lib.hid (HTB.out.below hbn)
    have HBn := Lib.hid (HBc.out.trans (hbn.mono HBc.out.size))
    have hSn : wn.cell? ⟨g5, 0, none⟩ = some (.bool ngU) ∧ wn.cell? ⟨g5, 1, none⟩ = some (.slice AU nU cU) ∧ wn.cell? ⟨g5, 2, none⟩ = some (.slice DU dU eU) ∧ wn.cell? ⟨g6, 0, none⟩ = some (.bool ngV) ∧ wn.cell? ⟨g6, 1, none⟩ = some (.slice AV nV cV) ∧ wn.cell? ⟨g6, 2, none⟩ = some (.slice DV dV eV) := ⟨(hbn.cell (p := ⟨g5, 0, none⟩) hg_0).trans hS.1, (hbn.cell (p := ⟨g5, 1, none⟩) hg_0).trans hS.2.1, (hbn.cell (p := ⟨g5, 2, none⟩) hg_0).trans hS.2.2.1, (hbn.cell (p := ⟨g6, 0, none⟩) hg_1).trans hS.2.2.2.1, (hbn.cell (p := ⟨g6, 1, none⟩) hg_1).trans hS.2.2.2.2.1, (hbn.cell (p := ⟨g6, 2, none⟩) hg_1).trans hS.2.2.2.2.2⟩
    have hgn_0 := Nat.lt_of_lt_of_le hg_0 hbn.size
    have hgn_1 := Nat.lt_of_lt_of_le hg_1 hbn.size
    refine hK.out _ _ hSn ?_
    clear hK K hS HBc hg_0 hg_1
    try simp only [List.getElem_toArray, List.getElem_cons_succ, List.getElem_cons_zero, Act.put, List.setIfInBounds_toArray, List.set_cons_zero, List.set_cons_succ]
    have hS := hSn
    have HBc := HBn
    have hg_0 := hgn_0
    have hg_1 := hgn_1
    clear hSn HBn hbn hgn_0 hgn_1
    obtain ⟨wc, rfl⟩ : ∃ x : World, x = wn := ⟨_, rfl⟩
    refine HL.one (i := 8) (o := _) rfl (by kernel_rfl) (by decide) (by rfl) ?_
    intro K hK
    go_simp
    refine (RINT_any n (by omega) (by omega) _ HTB).mono ?_
    rintro e wn ⟨ng3, A3, n3, c3, D3, d3, e3, rfl, hH3, k3, m3, hbn⟩
    have H3 := Lib.hid hH3
    clear hH3
    clear HTB
    replace HV := Lib.hid (HV.out.to hbn (Nat.le_refl _) hbn.size)
    replace H2 := Lib.hid (H2.out.to hbn (Nat.le_refl _) hbn.size)
    have HBn := Lib.hid (HBc.out.trans (hbn.mono HBc.out.size))
    have hSn : wn.cell? ⟨g5, 0, none⟩ = some (.bool ngU) ∧ wn.cell? ⟨g5, 1, none⟩ = some (.slice AU nU cU) ∧ wn.cell? ⟨g5, 2, none⟩ = some (.slice DU dU eU) ∧ wn.cell? ⟨g6, 0, none⟩ = some (.bool ngV) ∧ wn.cell? ⟨g6, 1, none⟩ = some (.slice AV nV cV) ∧ wn.cell? ⟨g6, 2, none⟩ = some (.slice DV dV eV) := ⟨(hbn.cell (p := ⟨g5, 0, none⟩) hg_0).trans hS.1, (hbn.cell (p := ⟨g5, 1, none⟩) hg_0).trans hS.2.1, (hbn.cell (p := ⟨g5, 2, none⟩) hg_0).trans hS.2.2.1, (hbn.cell (p := ⟨g6, 0, none⟩) hg_1).trans hS.2.2.2.1, (hbn.cell (p := ⟨g6, 1, none⟩) hg_1).trans hS.2.2.2.2.1, (hbn.cell (p := ⟨g6, 2, none⟩) hg_1).trans hS.2.2.2.2.2⟩
    have hgn_0 := Nat.lt_of_lt_of_le hg_0 hbn.size
    have hgn_1 := Nat.lt_of_lt_of_le hg_1 hbn.size
    refine hK.out _ _ hSn ?_
    clear hK K hS HBc hg_0 hg_1
    try simp only [List.getElem_toArray, List.getElem_cons_succ, List.getElem_cons_zero, Act.put, List.setIfInBounds_toArray, List.set_cons_zero, List.set_cons_succ]
    have hS := hSn
    have HBc := HBn
    have hg_0 := hgn_0
    have hg_1 := hgn_1
    clear hSn HBn hbn hgn_0 hgn_1
    obtain ⟨wc, rfl⟩ : ∃ x : World, x = wn := ⟨_, rfl⟩
    refine HL.one (i := 9) (o := _) rfl (by kernel_rfl) (by decide) (by rfl) ?_
    intro K hK
    go_simp
    refine (ROVER_any ngV ng3 AV A3 DV D3 nV cV dV eV n3 c3 d3 e3 _ _ (by omega) (by omega) (by omega) (by omega) HNZ.out _ wc.heap.size (Nat.le_refl _) HV H3).mono ?_
    rintro e wn ⟨ng4, A4, n4, c4, D4, d4, e4, rfl, hH4, k4, m4, hbn⟩
    have H4 := Lib.hid hH4
    clear hH4
    clear HV H3
    replace H2 := Lib.hid (H2.out.to hbn (Nat.le_refl _) hbn.size)
    have HBn := Lib.hid (HBc.out.trans (hbn.mono HBc.out.size))
    have hSn : wn.cell? ⟨g5, 0, none⟩ = some (.bool ngU) ∧ wn.cell? ⟨g5, 1, none⟩ = some (.slice AU nU cU) ∧ wn.cell? ⟨g5, 2, none⟩ = some (.slice DU dU eU) ∧ wn.cell? ⟨g6, 0, none⟩ = some (.bool ngV) ∧ wn.cell? ⟨g6, 1, none⟩ = some (.slice AV nV cV) ∧ wn.cell? ⟨g6, 2, none⟩ = some (.slice DV dV eV) := ⟨(hbn.cell (p := ⟨g5, 0, none⟩) hg_0).trans hS.1, (hbn.cell (p := ⟨g5, 1, none⟩) hg_0).trans hS.2.1, (hbn.cell (p := ⟨g5, 2, none⟩) hg_0).trans hS.2.2.1, (hbn.cell (p := ⟨g6, 0, none⟩) hg_1).trans hS.2.2.2.1, (hbn.cell (p := ⟨g6, 1, none⟩) hg_1).trans hS.2.2.2.2.1, (hbn.cell (p := ⟨g6, 2, none⟩) hg_1).trans hS.2.2.2.2.2⟩
    have hgn_0 := Nat.lt_of_lt_of_le hg_0 hbn.size
    have hgn_1 := Nat.lt_of_lt_of_le hg_1 hbn.size
    refine hK.out _ _ hSn ?_
    clear hK K hS HBc hg_0 hg_1
    try simp only [List.getElem_toArray, List.getElem_cons_succ, List.getElem_cons_zero, Act.put, List.setIfInBounds_toArray, List.set_cons_zero, List.set_cons_succ]
    have hS := hSn
    have HBc := HBn
    have hg_0 := hgn_0
    have hg_1 := hgn_1
    clear hSn HBn hbn hgn_0 hgn_1
    obtain ⟨wc, rfl⟩ : ∃ x : World, x = wn := ⟨_, rfl⟩
    rw [EMA.out] at H2
    rw [EMB.out] at H4
    have E1 := Lib.hid ((HBc.out.block g5 (blk_lt HBU.out)).trans HBU.out)
    have E2 := Lib.hid ((HBc.out.block g6 (blk_lt HBV.out)).trans HBV.out)
    obtain ⟨r50, r51, r52, f50, f51, f52⟩ := r3_cells E1.out
    obtain ⟨r60, r61, r62, f60, f61, f62⟩ := r3_cells E2.out
    refine HL.done (by kernel_rfl) ?_
    clear hS
    simp only [List.drop_succ_cons, List.drop_zero]
    obtain ⟨V, hV, R1, R2, RF, RB⟩ := rbox_two E1.out E2.out D56.out H2.out H4.out
    have hd1 : ¬ g5 = g6 := D56.out
    have hd2 : ¬ g6 = g5 := Ne.symm D56.out
    have HBV2 : Hid (Below w.heap.size w V) := RB.out _ _ G5.out G6.out (HBA.out.trans (HBc.out.mono HBA.out.size))
    clear E1 E2 HBU HBV H2 H4 RF RB
    go_wp2_with fail
    go_meet
    rw [← hV]
    exact ⟨R1, R2, HBV2⟩
    -- H2 H4
  case rest =>
  clear IA IB HBA
  obtain ⟨IA, IB, HBA⟩ := hcut
  obtain ⟨W, rfl⟩ : ∃ x : World, x = wc := ⟨_, rfl⟩
  go_wp2_with fail
  refine (RINT_any 0 (by decide) (by decide) _ (Lib.hid (ht.out.below HBA.out))).mono ?_
  rintro e w2 ⟨ng1, A1, n1, c1, D1, d1, e1, rfl, h1, _, _, hb2⟩
  replace IA := Lib.hid (IA.out.below hb2)
  replace IB := Lib.hid (IB.out.below hb2)
  replace HBA := Lib.hid (HBA.out.trans (hb2.mono HBA.out.size))
  have H1 := Lib.hid h1
  clear hb2 h1
  go_wp2_with fail
  refine (RINT_any 0 (by decide) (by decide) _ (Lib.hid (ht.out.below HBA.out))).mono ?_
  rintro e w3 ⟨ng2, A2, n2, c2, D2, d2, e2, rfl, h2, _, _, hb3⟩
  have H1' := Lib.hid (H1.out.to hb3 (Nat.le_refl _) hb3.size)
  replace IA := Lib.hid (IA.out.below hb3)
  replace IB := Lib.hid (IB.out.below hb3)
  replace HBA := Lib.hid (HBA.out.trans (hb3.mono HBA.out.size))
  have H2 := Lib.hid h2
  clear hb3 h2 H1
  go_upto_region 11 with (fail)
  obtain ⟨W5, g8, hW5, hg8, HG8, HBW5, HSW5⟩ := boxes2 w3 (.cells #[.bool ng1, .slice A1 n1 c1, .slice D1 d1 e1] 50) (.cells #[.bool ng2, .slice A2 n2 c2, .slice D2 d2 e2] 50)
  obtain ⟨g9, hg9⟩ : ∃ g, g = g8 + 1 := ⟨_, rfl⟩
  rw [← hg9] at HG8
  have l5 := IA.out.lt
  have l6 := IB.out.lt
  have hs3 := HBA.out.size
  have D58 : Hid (g5 ≠ g8) := by show _ ≠ _; omega
  have D59 : Hid (g5 ≠ g9) := by show _ ≠ _; omega
  have D68 : Hid (g6 ≠ g8) := by show _ ≠ _; omega
  have D69 : Hid (g6 ≠ g9) := by show _ ≠ _; omega
  have D89 : Hid (g8 ≠ g9) := by show _ ≠ _; omega
  have G8 : Hid (w.heap.size ≤ g8) := by show _ ≤ _; omega
  have G9 : Hid (w.heap.size ≤ g9) := by show _ ≤ _; omega
  have IU : Hid (RBox W5 g8 (upQ l (meanA l) (meanB l) 0)) := ⟨_, _, _, _, _, _, _, HG8.out.1, H1'.out.to HBW5.out (Nat.le_refl _) HBW5.out.size⟩
  have ID : Hid (RBox W5 g9 (dnQ l (meanA l) 0)) := ⟨_, _, _, _, _, _, _, HG8.out.2, H2.out.to HBW5.out (Nat.le_refl _) HBW5.out.size⟩
  replace IA := Lib.hid (IA.out.below HBW5.out)
  replace IB := Lib.hid (IB.out.below HBW5.out)
  replace HBA := Lib.hid (HBA.out.trans (HBW5.out.mono hs3))
  rw [← hW5, ← hg8, ← hg9]
  clear hW5 hg8 hg9 HG8 HBW5 HSW5 H1' H2 hs3 l5 l6
  go_upto_block 2 with (fail)
  go_cut [] (fun wx => Hid (RBox wx g5 (meanA l)) ∧ Hid (RBox wx g6 (meanB l)) ∧ Hid (RBox wx g8 (upQ l (meanA l) (meanB l) n)) ∧ Hid (RBox wx g9 (dnQ l (meanA l) n)) ∧ Hid (Below w.heap.size w wx))
  case first =>
    go_wp2_with fail
    go_loopw [10] (fun i wr => ∃ k : Nat, k ≤ n ∧ i = .int .i64 k ∧ Hid (RBox wr g5 (meanA l)) ∧ Hid (RBox wr g6 (meanB l)) ∧ Hid (RBox wr g8 (upQ l (meanA l) (meanB l) k)) ∧ Hid (RBox wr g9 (dnQ l (meanA l) k)) ∧ Hid (Below w.heap.size w wr)) (fun i _ => n - (intOf i).toNat)
    case atStart => exact ⟨0, Nat.zero_le _, rfl, IA, IB, IU, ID, HBA⟩
    case round =>
      clear IA IB IU ID HBA
      obtain ⟨k, hk, rfl, I5, I6, I8, I9, HBA⟩ := hrel
      by_cases hlt : k < n
      · obtain ⟨bA, oA, rfl, hbA, k1, k2⟩ := (hh.out.below (HBA.out.mono hB) (Nat.le_refl _)).2 k hlt
        have hsw := HBA.out.size
        have hbAw : bA < wr.heap.size := by omega
        obtain ⟨⟨rg1, rg2⟩, rg3, rg4⟩ := HRG.out k (by rw [hl.out]; exact hlt)
        have SU : Hid (upQ l (meanA l) (meanB l) (k + 1) = upQ l (meanA l) (meanB l) k + (prA l k + -(meanA l)) * (prB l k + -(meanB l))) := rfl
        have SD : Hid (dnQ l (meanA l) (k + 1) = dnQ l (meanA l) k + (prA l k + -(meanA l)) * (prA l k + -(meanA l))) := rfl
        unfold prA prB at SU
        unfold prA at SD
        obtain ⟨p, hp⟩ : ∃ p, prOf l k = p := ⟨_, rfl⟩
        obtain ⟨x, y⟩ := p
        rw [hp] at k1 k2 rg1 rg2 rg3 rg4 SU SD
        dsimp only at k1 k2 rg1 rg2 rg3 rg4 SU SD
        have hk0 : (0 : Int) ≤ (k : Int) := by omega
        have hkn : (k : Int) < (n : Int) := by omega
        have hkk : k ≤ l.length := by rw [hl.out]; omega
        have HTB : Hid (TabAt wr) := ht.out.below HBA.out
        have SXI : Hid (SmQ ((x : Int) : Rat) 5) := smQ_int (by omega) (by rw [show (10000 : Nat) ^ 5 = 100000000000000000000 from rfl]; omega)
        have SYI : Hid (SmQ ((y : Int) : Rat) 5) := smQ_int (by omega) (by rw [show (10000 : Nat) ^ 5 = 100000000000000000000 from rfl]; omega)
        have SMA := Lib.hid (smQ_neg HSZ.out.1)
        have SMB := Lib.hid (smQ_neg HSZ.out.2.1)
        obtain ⟨W, rfl⟩ : ∃ x : World, x = wr := ⟨_, rfl⟩
        clear hp
        go_upto_region 14 with (fail)
        go_cut [11, 12] from 62 to 80 (fun v11 v12 wx => ∃ g11 g12 : Nat, v11 = .pointer (some ⟨g11, 0, none⟩) ∧ v12 = .pointer (some ⟨g12, 0, none⟩) ∧ Hid (RBox wx g11 (((x : Int) : Rat) + -(meanA l))) ∧ Hid (RBox wx g12 (((y : Int) : Rat) + -(meanB l))) ∧ Hid (Below W.heap.size W wx))
        case first =>
          obtain ⟨ngU, AU, nU, cU, DU, dU, eU, bU, hU⟩ := I5.out
          have HBU := Lib.hid bU
          have HU := Lib.hid hU
          obtain ⟨jU, jU'⟩ := numR_le hU HSZ.out.1
          obtain ⟨qU0, qU1, qU2, _, _, _⟩ := r3_cells bU
          clear bU hU
          obtain ⟨ngV, AV, nV, cV, DV, dV, eV, bV, hV⟩ := I6.out
          have HBV := Lib.hid bV
          have HV := Lib.hid hV
          obtain ⟨jV, jV'⟩ := numR_le hV HSZ.out.2.1
          obtain ⟨qV0, qV1, qV2, _, _, _⟩ := r3_cells bV
          clear bV hV
          clear I5 I6 I8 I9
          refine wp_region_head 20 (fun x9 => x9.cell? ⟨g5, 0, none⟩ = some (.bool ngU) ∧ x9.cell? ⟨g5, 1, none⟩ = some (.slice AU nU cU) ∧ x9.cell? ⟨g5, 2, none⟩ = some (.slice DU dU eU) ∧ x9.cell? ⟨g6, 0, none⟩ = some (.bool ngV) ∧ x9.cell? ⟨g6, 1, none⟩ = some (.slice AV nV cV) ∧ x9.cell? ⟨g6, 2, none⟩ = some (.slice DV dV eV) ∧ x9.cell? ⟨bA, oA + k * 2, none⟩ = some (.int .i64 x) ∧ x9.cell? ⟨bA, oA + k * 2 + 1, none⟩ = some (.int .i64 y)) (by kernel_rfl) (by kernel_rfl) ?_
          obtain ⟨wc, hwc⟩ : ∃ x : World, x = W.drew := ⟨_, rfl⟩
          have HBc : Hid (Below W.heap.size W wc) := by show Below _ _ _; rw [hwc]; exact (Below.refl _ _).drew
          have hS : wc.cell? ⟨g5, 0, none⟩ = some (.bool ngU) ∧ wc.cell? ⟨g5, 1, none⟩ = some (.slice AU nU cU) ∧ wc.cell? ⟨g5, 2, none⟩ = some (.slice DU dU eU) ∧ wc.cell? ⟨g6, 0, none⟩ = some (.bool ngV) ∧ wc.cell? ⟨g6, 1, none⟩ = some (.slice AV nV cV) ∧ wc.cell? ⟨g6, 2, none⟩ = some (.slice DV dV eV) ∧ wc.cell? ⟨bA, oA + k * 2, none⟩ = some (.int .i64 x) ∧ wc.cell? ⟨bA, oA + k * 2 + 1, none⟩ = some (.int .i64 y) := by rw [hwc]; exact ⟨qU0, qU1, qU2, qV0, qV1, qV2, k1, k2⟩
          rw [← hwc]
          clear hwc
          refine HL.take (i := 0) (oi := _) (v := ?_) rfl (by kernel_rfl) (by kernel_rfl) (by decide) (fun _ _ _ h => h) (Or.inl ⟨by rfl, ?_⟩) hS ?_
          rotate_left
          · intro wz hwz
            try dsimp only at hwz
            go_simp
            try with_reducible rfl
          simp only [List.getElem_toArray, List.getElem_cons_succ, List.getElem_cons_zero, Act.put, List.setIfInBounds_toArray, List.set_cons_zero, List.set_cons_succ]
          refine HL.take (i := 1) (oi := _) (v := ?_) rfl (by kernel_rfl) (by kernel_rfl) (by decide) (fun _ _ _ h => h) (Or.inl ⟨by rfl, ?_⟩) hS ?_
          rotate_left
          · intro wz hwz
            try dsimp only at hwz
            go_simp
            try with_reducible rfl
          simp only [List.getElem_toArray, List.getElem_cons_succ, List.getElem_cons_zero, Act.put, List.setIfInBounds_toArray, List.set_cons_zero, List.set_cons_succ]
          refine HL.take (i := 2) (oi := _) (v := ?_) rfl (by kernel_rfl) (by kernel_rfl) (by decide) (fun _ _ _ h => h) (Or.inl ⟨by rfl, ?_⟩) hS ?_
          rotate_left
          · intro wz hwz
            try dsimp only at hwz
            go_simp
            try with_reducible rfl
          simp only [List.getElem_toArray, List.getElem_cons_succ, List.getElem_cons_zero, Act.put, List.setIfInBounds_toArray, List.set_cons_zero, List.set_cons_succ]
          refine HL.take (i := 3) (oi := _) (v := ?_) rfl (by kernel_rfl) (by kernel_rfl) (by decide) (fun _ _ _ h => h) (Or.inl ⟨by rfl, ?_⟩) hS ?_
          rotate_left
          · intro wz hwz
            try dsimp only at hwz
            go_simp
            try with_reducible rfl
          simp only [List.getElem_toArray, List.getElem_cons_succ, List.getElem_cons_zero, Act.put, List.setIfInBounds_toArray, List.set_cons_zero, List.set_cons_succ]
          refine HL.take (i := 4) (oi := _) (v := ?_) rfl (by kernel_rfl) (by kernel_rfl) (by decide) (fun _ _ _ h => h) (Or.inl ⟨by rfl, ?_⟩) hS ?_
          rotate_left
          · intro wz hwz
            try dsimp only at hwz
            go_simp
            try with_reducible rfl
          simp only [List.getElem_toArray, List.getElem_cons_succ, List.getElem_cons_zero, Act.put, List.setIfInBounds_toArray, List.set_cons_zero, List.set_cons_succ]
          refine HL.take (i := 6) (oi := _) (v := ?_) rfl (by kernel_rfl) (by kernel_rfl) (by decide) (fun _ _ _ h => h) (Or.inl ⟨by rfl, ?_⟩) hS ?_
          rotate_left
          · intro wz hwz
            try dsimp only at hwz
            go_simp
            try with_reducible rfl
          simp only [List.getElem_toArray, List.getElem_cons_succ, List.getElem_cons_zero, Act.put, List.setIfInBounds_toArray, List.set_cons_zero, List.set_cons_succ]
          refine HL.take (i := 9) (oi := _) (v := ?_) rfl (by kernel_rfl) (by kernel_rfl) (by decide) (fun _ _ _ h => h) (Or.inl ⟨by rfl, ?_⟩) hS ?_
          rotate_left
          · intro wz hwz
            try dsimp only at hwz
            go_simp
            try with_reducible rfl
          simp only [List.getElem_toArray, List.getElem_cons_succ, List.getElem_cons_zero, Act.put, List.setIfInBounds_toArray, List.set_cons_zero, List.set_cons_succ]
          refine HL.take (i := 10) (oi := _) (v := ?_) rfl (by kernel_rfl) (by kernel_rfl) (by decide) (fun _ _ _ h => h) (Or.inl ⟨by rfl, ?_⟩) hS ?_
          rotate_left
          · intro wz hwz
            try dsimp only at hwz
            go_simp
            try with_reducible rfl
          simp only [List.getElem_toArray, List.getElem_cons_succ, List.getElem_cons_zero, Act.put, List.setIfInBounds_toArray, List.set_cons_zero, List.set_cons_succ]
          refine HL.take (i := 11) (oi := _) (v := ?_) rfl (by kernel_rfl) (by kernel_rfl) (by decide) (fun _ _ _ h => h) (Or.inl ⟨by rfl, ?_⟩) hS ?_
          rotate_left
          · intro wz hwz
            try dsimp only at hwz
            go_simp
            try with_reducible rfl
          simp only [List.getElem_toArray, List.getElem_cons_succ, List.getElem_cons_zero, Act.put, List.setIfInBounds_toArray, List.set_cons_zero, List.set_cons_succ]
          refine HL.take (i := 12) (oi := _) (v := ?_) rfl (by kernel_rfl) (by kernel_rfl) (by decide) (fun _ _ _ h => h) (Or.inl ⟨by rfl, ?_⟩) hS ?_
          rotate_left
          · intro wz hwz
            try dsimp only at hwz
            go_simp
            try with_reducible rfl
          simp only [List.getElem_toArray, List.getElem_cons_succ, List.getElem_cons_zero, Act.put, List.setIfInBounds_toArray, List.set_cons_zero, List.set_cons_succ]
          refine HL.take (i := 13) (oi := _) (v := ?_) rfl (by kernel_rfl) (by kernel_rfl) (by decide) (fun _ _ _ h => h) (Or.inl ⟨by rfl, ?_⟩) hS ?_
          rotate_left
          · intro wz hwz
            try dsimp only at hwz
            go_simp
            try with_reducible rfl
          simp only [List.getElem_toArray, List.getElem_cons_succ, List.getElem_cons_zero, Act.put, List.setIfInBounds_toArray, List.set_cons_zero, List.set_cons_succ]
          refine HL.take (i := 15) (oi := _) (v := ?_) rfl (by kernel_rfl) (by kernel_rfl) (by decide) (fun _ _ _ h => h) (Or.inl ⟨by rfl, ?_⟩) hS ?_
          rotate_left
          · intro wz hwz
            try dsimp only at hwz
            go_simp
            try with_reducible rfl
          simp only [List.getElem_toArray, List.getElem_cons_succ, List.getElem_cons_zero, Act.put, List.setIfInBounds_toArray, List.set_cons_zero, List.set_cons_succ]
          refine HL.join [5, 7, 8, 14, 16, 17, 18, 19] [[], [], [], [], [], [], [], [5], [5, 7], [], [], [], [], [], [5, 7, 8], [], [5, 7, 8, 14], [5, 7, 8, 14, 16], [], [], [5, 7, 8, 14, 16, 17, 18, 19], [5, 7, 8, 14, 16, 17, 18, 19]] (fun i v wx => match i with | 5 => NumV ((x : Int) : Rat) v wx | 7 => NumV (-(meanA l)) v wx | 8 => NumV (((x : Int) : Rat) + -(meanA l)) v wx | 14 => NumV ((y : Int) : Rat) v wx | 16 => NumV (-(meanB l)) v wx | 17 => NumV (((y : Int) : Rat) + -(meanB l)) v wx | 18 => BoxV W.heap.size 50 #[.bool false, .slice none 0 0, .slice none 0 0] v wx | 19 => BoxV W.heap.size 50 #[.bool false, .slice none 0 0, .slice none 0 0] v wx | _ => True) (FarV [18, 19]) (fun wx => Below W.heap.size W wx) (fun wx wy => Below wx.heap.size wx wy) (by kernel_rfl) rfl ?_ ?_ ?_ HBc.out ?_ ?_
          · intro wx hg
            exact ⟨(hg.cell (p := ⟨g5, 0, none⟩) (blk_lt HBU.out)).trans qU0, (hg.cell (p := ⟨g5, 1, none⟩) (blk_lt HBU.out)).trans qU1, (hg.cell (p := ⟨g5, 2, none⟩) (blk_lt HBU.out)).trans qU2, (hg.cell (p := ⟨g6, 0, none⟩) (blk_lt HBV.out)).trans qV0, (hg.cell (p := ⟨g6, 1, none⟩) (blk_lt HBV.out)).trans qV1, (hg.cell (p := ⟨g6, 2, none⟩) (blk_lt HBV.out)).trans qV2, (hg.cell (p := ⟨bA, oA + k * 2, none⟩) (hbAw)).trans k1, (hg.cell (p := ⟨bA, oA + k * 2 + 1, none⟩) (hbAw)).trans k2⟩
          · intro wx wy hg hr; exact hg.trans (hr.mono hg.size)
          · intro i v wx wy hi hv hr
            simp only [List.mem_cons, List.not_mem_nil, or_false] at hi
            rcases hi with rfl | rfl | rfl | rfl | rfl | rfl | rfl | rfl
            · exact hv.below hr
            · exact hv.below hr
            · exact hv.below hr
            · exact hv.below hr
            · exact hv.below hr
            · exact hv.below hr
            · exact hv.below hr
            · exact hv.below hr
          · intro i o hi ho vs wx hg hv
            simp only [List.mem_cons, List.not_mem_nil, or_false] at hi
            rcases hi with rfl | rfl | rfl | rfl | rfl | rfl | rfl | rfl
            · obtain rfl := Option.some.inj (show some _ = some o from ho)
              show JStep _ _ _ _ _ _ _ _ _ wx
              clear hv ho hS 
              try simp only [List.getElem_toArray, List.getElem_cons_succ, List.getElem_cons_zero, Act.put, List.setIfInBounds_toArray, List.set_cons_zero, List.set_cons_succ]
              refine ⟨by rfl, fun K hK => ?_⟩
              go_simp
              refine (RINT_any x (by omega) (by omega) _ (Lib.hid (HTB.out.below hg))).mono ?_
              rintro e wn ⟨ng5, A5, n5, c5, D5, d5, e5, rfl, hH, k9, m9, hbn⟩
              exact hK.out _ _ _ rfl ⟨ng5, A5, n5, c5, D5, d5, e5, rfl, hH⟩ (fun j u hj hji hu h1 h2 => absurd h2 (by decide)) hbn
            · obtain rfl := Option.some.inj (show some _ = some o from ho)
              show JStep _ _ _ _ _ _ _ _ (Act.put _ (some 67) (vs 5)) wx
              clear hv ho hS 
              obtain ⟨v5, hv5⟩ : ∃ x, vs 5 = x := ⟨_, rfl⟩
              rw [hv5]
              clear hv5
              try simp only [List.getElem_toArray, List.getElem_cons_succ, List.getElem_cons_zero, Act.put, List.setIfInBounds_toArray, List.set_cons_zero, List.set_cons_succ]
              refine ⟨by rfl, fun K hK => ?_⟩
              go_simp
              refine (RMINUS_any ngU AU DU nU cU dU eU _ _ wx.heap.size (Nat.le_refl _) (Lib.hid (HU.out.to hg (Nat.le_refl _) hg.size))).mono ?_
              rintro e wn ⟨ng7, A7, n7, c7, D7, d7, e7, rfl, hH, k9, m9, hbn⟩
              exact hK.out _ _ _ rfl ⟨ng7, A7, n7, c7, D7, d7, e7, rfl, hH⟩ (fun j u hj hji hu h1 h2 => absurd h2 (by decide)) hbn
            · obtain rfl := Option.some.inj (show some _ = some o from ho)
              have h5 : NumV ((x : Int) : Rat) (vs 5) wx := hv 5 (by decide)
              obtain ⟨ng5, A5, n5, c5, D5, d5, e5, e5, hR5⟩ := h5
              have h7 : NumV (-(meanA l)) (vs 7) wx := hv 7 (by decide)
              obtain ⟨ng7, A7, n7, c7, D7, d7, e7, e7, hR7⟩ := h7
              show JStep _ _ _ _ _ _ _ _ (Act.put (Act.put _ (some 67) (vs 5)) (some 69) (vs 7)) wx
              rw [e5, e7]
              clear hv ho hS e5 e7
              try simp only [List.getElem_toArray, List.getElem_cons_succ, List.getElem_cons_zero, Act.put, List.setIfInBounds_toArray, List.set_cons_zero, List.set_cons_succ]
              refine ⟨by rfl, fun K hK => ?_⟩
              obtain ⟨l5, l5'⟩ := numR_le hR5 SXI.out
              obtain ⟨l7, l7'⟩ := numR_le hR7 SMA.out
              go_simp
              refine (RPLUS_any ng5 ng7 A5 A7 D5 D7 n5 c5 d5 e5 n7 c7 d7 e7 _ _ (by omega) (by omega) (by omega) (by omega) _ wx.heap.size (Nat.le_refl _) (Lib.hid hR5) (Lib.hid hR7)).mono ?_
              rintro e wn ⟨ng8, A8, n8, c8, D8, d8, e8, rfl, hH, k9, m9, hbn⟩
              exact hK.out _ _ _ rfl ⟨ng8, A8, n8, c8, D8, d8, e8, rfl, hH⟩ (fun j u hj hji hu h1 h2 => absurd h2 (by decide)) hbn
            · obtain rfl := Option.some.inj (show some _ = some o from ho)
              show JStep _ _ _ _ _ _ _ _ (Act.put (Act.put (Act.put _ (some 67) (vs 5)) (some 69) (vs 7)) (some 70) (vs 8)) wx
              clear hv ho hS 
              obtain ⟨v5, hv5⟩ : ∃ x, vs 5 = x := ⟨_, rfl⟩
              rw [hv5]
              clear hv5
              obtain ⟨v7, hv7⟩ : ∃ x, vs 7 = x := ⟨_, rfl⟩
              rw [hv7]
              clear hv7
              obtain ⟨v8, hv8⟩ : ∃ x, vs 8 = x := ⟨_, rfl⟩
              rw [hv8]
              clear hv8
              try simp only [List.getElem_toArray, List.getElem_cons_succ, List.getElem_cons_zero, Act.put, List.setIfInBounds_toArray, List.set_cons_zero, List.set_cons_succ]
              refine ⟨by rfl, fun K hK => ?_⟩
              go_simp
              refine (RINT_any y (by omega) (by omega) _ (Lib.hid (HTB.out.below hg))).mono ?_
              rintro e wn ⟨ng5, A5, n5, c5, D5, d5, e5, rfl, hH, k9, m9, hbn⟩
              exact hK.out _ _ _ rfl ⟨ng5, A5, n5, c5, D5, d5, e5, rfl, hH⟩ (fun j u hj hji hu h1 h2 => absurd h2 (by decide)) hbn
            · obtain rfl := Option.some.inj (show some _ = some o from ho)
              show JStep _ _ _ _ _ _ _ _ (Act.put (Act.put (Act.put (Act.put _ (some 67) (vs 5)) (some 69) (vs 7)) (some 70) (vs 8)) (some 76) (vs 14)) wx
              clear hv ho hS 
              obtain ⟨v5, hv5⟩ : ∃ x, vs 5 = x := ⟨_, rfl⟩
              rw [hv5]
              clear hv5
              obtain ⟨v7, hv7⟩ : ∃ x, vs 7 = x := ⟨_, rfl⟩
              rw [hv7]
              clear hv7
              obtain ⟨v8, hv8⟩ : ∃ x, vs 8 = x := ⟨_, rfl⟩
              rw [hv8]
              clear hv8
              obtain ⟨v14, hv14⟩ : ∃ x, vs 14 = x := ⟨_, rfl⟩
              rw [hv14]
              clear hv14
              try simp only [List.getElem_toArray, List.getElem_cons_succ, List.getElem_cons_zero, Act.put, List.setIfInBounds_toArray, List.set_cons_zero, List.set_cons_succ]
              refine ⟨by rfl, fun K hK => ?_⟩
              go_simp
              refine (RMINUS_any ngV AV DV nV cV dV eV _ _ wx.heap.size (Nat.le_refl _) (Lib.hid (HV.out.to hg (Nat.le_refl _) hg.size))).mono ?_
              rintro e wn ⟨ng7, A7, n7, c7, D7, d7, e7, rfl, hH, k9, m9, hbn⟩
              exact hK.out _ _ _ rfl ⟨ng7, A7, n7, c7, D7, d7, e7, rfl, hH⟩ (fun j u hj hji hu h1 h2 => absurd h2 (by decide)) hbn
            · obtain rfl := Option.some.inj (show some _ = some o from ho)
              have h14 : NumV ((y : Int) : Rat) (vs 14) wx := hv 14 (by decide)
              obtain ⟨ng5, A5, n5, c5, D5, d5, e5, e14, hR5⟩ := h14
              have h16 : NumV (-(meanB l)) (vs 16) wx := hv 16 (by decide)
              obtain ⟨ng7, A7, n7, c7, D7, d7, e7, e16, hR7⟩ := h16
              show JStep _ _ _ _ _ _ _ _ (Act.put (Act.put (Act.put (Act.put (Act.put _ (some 67) (vs 5)) (some 69) (vs 7)) (some 70) (vs 8)) (some 76) (vs 14)) (some 78) (vs 16)) wx
              rw [e14, e16]
              clear hv ho hS e14 e16
              obtain ⟨v5, hv5⟩ : ∃ x, vs 5 = x := ⟨_, rfl⟩
              rw [hv5]
              clear hv5
              obtain ⟨v7, hv7⟩ : ∃ x, vs 7 = x := ⟨_, rfl⟩
              rw [hv7]
              clear hv7
              obtain ⟨v8, hv8⟩ : ∃ x, vs 8 = x := ⟨_, rfl⟩
              rw [hv8]
              clear hv8
              try simp only [List.getElem_toArray, List.getElem_cons_succ, List.getElem_cons_zero, Act.put, List.setIfInBounds_toArray, List.set_cons_zero, List.set_cons_succ]
              refine ⟨by rfl, fun K hK => ?_⟩
              obtain ⟨l5, l5'⟩ := numR_le hR5 SYI.out
              obtain ⟨l7, l7'⟩ := numR_le hR7 SMB.out
              go_simp
              refine (RPLUS_any ng5 ng7 A5 A7 D5 D7 n5 c5 d5 e5 n7 c7 d7 e7 _ _ (by omega) (by omega) (by omega) (by omega) _ wx.heap.size (Nat.le_refl _) (Lib.hid hR5) (Lib.hid hR7)).mono ?_
              rintro e wn ⟨ng8, A8, n8, c8, D8, d8, e8, rfl, hH, k9, m9, hbn⟩
              exact hK.out _ _ _ rfl ⟨ng8, A8, n8, c8, D8, d8, e8, rfl, hH⟩ (fun j u hj hji hu h1 h2 => absurd h2 (by decide)) hbn
            · obtain rfl := Option.some.inj (show some _ = some o from ho)
              show JStep _ _ _ _ _ _ _ _ _ wx
              clear hv ho hS 
              try simp only [List.getElem_toArray, List.getElem_cons_succ, List.getElem_cons_zero, Act.put, List.setIfInBounds_toArray, List.set_cons_zero, List.set_cons_succ]
              refine ⟨by rfl, fun K hK => ?_⟩
              go_simp
              have hbn : Below wx.heap.size wx (wx.alloc (.cells #[.bool false, .slice none 0 0, .slice none 0 0] 50)) := (Below.refl _ _).alloc (Nat.le_refl _) _
              exact hK.out _ _ _ rfl ⟨_, rfl, hg.size, heap_alloc_new _ _⟩ (fun j u hj hji hu h1 h2 => by
                simp only [List.mem_cons, List.not_mem_nil, or_false] at h1
                rcases h1 with rfl | rfl
                · first | exact BoxV.far hu | exact absurd rfl hji
                · first | exact BoxV.far hu | exact absurd rfl hji) hbn
            · obtain rfl := Option.some.inj (show some _ = some o from ho)
              show JStep _ _ _ _ _ _ _ _ _ wx
              clear hv ho hS 
              try simp only [List.getElem_toArray, List.getElem_cons_succ, List.getElem_cons_zero, Act.put, List.setIfInBounds_toArray, List.set_cons_zero, List.set_cons_succ]
              refine ⟨by rfl, fun K hK => ?_⟩
              go_simp
              have hbn : Below wx.heap.size wx (wx.alloc (.cells #[.bool false, .slice none 0 0, .slice none 0 0] 50)) := (Below.refl _ _).alloc (Nat.le_refl _) _
              exact hK.out _ _ _ rfl ⟨_, rfl, hg.size, heap_alloc_new _ _⟩ (fun j u hj hji hu h1 h2 => by
                simp only [List.mem_cons, List.not_mem_nil, or_false] at h1
                rcases h1 with rfl | rfl
                · first | exact BoxV.far hu | exact absurd rfl hji
                · first | exact BoxV.far hu | exact absurd rfl hji) hbn
          · intro vs wx hg hv hx
            have h8 : NumV (((x : Int) : Rat) + -(meanA l)) (vs 8) wx := hv 8 (by decide)
            obtain ⟨ng8, A8, n8, c8, D8, d8, e8, e8, hR8⟩ := h8
            have h17 : NumV (((y : Int) : Rat) + -(meanB l)) (vs 17) wx := hv 17 (by decide)
            obtain ⟨ng17, A17, n17, c17, D17, d17, e17, e17, hR17⟩ := h17
            have h18 : BoxV W.heap.size 50 #[.bool false, .slice none 0 0, .slice none 0 0] (vs 18) wx := hv 18 (by decide)
            obtain ⟨g11, e18, hN11, hG11⟩ := h18
            have h19 : BoxV W.heap.size 50 #[.bool false, .slice none 0 0, .slice none 0 0] (vs 19) wx := hv 19 (by decide)
            obtain ⟨g12, e19, hN12, hG12⟩ := h19
            have hx18_19 := hx 18 (by decide) 19 (by decide) (by decide)
            rw [e18, e19] at hx18_19
            show HL _ _ _ _ _ _ _ _ _ (Act.put (Act.put (Act.put (Act.put (Act.put (Act.put (Act.put (Act.put _ (some 67) (vs 5)) (some 69) (vs 7)) (some 70) (vs 8)) (some 76) (vs 14)) (some 78) (vs 16)) (some 79) (vs 17)) (some 11) (vs 18)) (some 12) (vs 19)) wx
            rw [e8, e17, e18, e19]
            clear hv hx HBc e8 e17 e18 e19
            obtain ⟨v5, hv5⟩ : ∃ x, vs 5 = x := ⟨_, rfl⟩
            rw [hv5]
            clear hv5
            obtain ⟨v7, hv7⟩ : ∃ x, vs 7 = x := ⟨_, rfl⟩
            rw [hv7]
            clear hv7
            obtain ⟨v14, hv14⟩ : ∃ x, vs 14 = x := ⟨_, rfl⟩
            rw [hv14]
            clear hv14
            obtain ⟨v16, hv16⟩ : ∃ x, vs 16 = x := ⟨_, rfl⟩
            rw [hv16]
            clear hv16
            try simp only [List.getElem_toArray, List.getElem_cons_succ, List.getElem_cons_zero, Act.put, List.setIfInBounds_toArray, List.set_cons_zero, List.set_cons_succ]
            have HBc := Lib.hid hg
            obtain ⟨wc, rfl⟩ : ∃ x : World, x = wx := ⟨_, rfl⟩
            have hne2 : g11 ≠ g12 := fun e => by
              rcases hx18_19 with h | h
              · exact h (by decide) (by decide) (by rw [e])
              · exact h (by decide) (by decide) (by rw [e])
            clear hx18_19
            have hne3 := Lib.hid hne2
            obtain ⟨r50, r51, r52, f50, f51, f52⟩ := r3_cells hG11
            obtain ⟨r60, r61, r62, f60, f61, f62⟩ := r3_cells hG12
            have hS := True.intro
            refine HL.done (by kernel_rfl) ?_
            clear hS
            simp only [List.drop_succ_cons, List.drop_zero]
            obtain ⟨V, hV, R1, R2, RF, RB⟩ := rbox_two hG11 hG12 hne2 hR8 hR17
            have HBV2 : Hid (Below W.heap.size W V) := RB.out _ _ hN11 hN12 HBc.out
            have h11 : ¬ g12 = g11 := Ne.symm hne2
            clear RF RB hR8 hR17 hG11 hG12
            go_wp2_with fail
            go_meet
            rw [← hV]
            exact ⟨g11, g12, rfl, rfl, R1, R2, HBV2⟩
        case rest =>
        obtain ⟨g11, g12, rfl, rfl, I11, I12, HBX9⟩ := hcut
        obtain ⟨W', rfl⟩ : ∃ x : World, x = wc := ⟨_, rfl⟩
        replace I5 := Lib.hid (I5.out.below HBX9.out)
        replace I6 := Lib.hid (I6.out.below HBX9.out)
        replace I8 := Lib.hid (I8.out.below HBX9.out)
        replace I9 := Lib.hid (I9.out.below HBX9.out)
        replace HBA := Lib.hid (HBA.out.trans (HBX9.out.mono HBA.out.size))
        clear HBX9 k1 k2 hbAw hsw HTB
        obtain ⟨W, rfl⟩ : ∃ x : World, x = W' := ⟨_, rfl⟩
        obtain ⟨ngP, AP, nP, cP, DP, dP, eP, bP, hP⟩ := I8.out
        have HBP := Lib.hid bP
        have HP := Lib.hid hP
        obtain ⟨jP, jP'⟩ := numR_le hP (HSZ.out.2.2.1 k hkk)
        obtain ⟨qP0, qP1, qP2, _, _, _⟩ := r3_cells bP
        clear bP hP
        obtain ⟨ngQ, AQ, nQ, cQ, DQ, dQ, eQ, bQ, hQ⟩ := I9.out
        have HBQ := Lib.hid bQ
        have HQ := Lib.hid hQ
        obtain ⟨jQ, jQ'⟩ := numR_le hQ (HSZ.out.2.2.2.1 k hkk)
        obtain ⟨qQ0, qQ1, qQ2, _, _, _⟩ := r3_cells bQ
        clear bQ hQ
        obtain ⟨ngX, AX, nX, cX, DX, dX, eX, bX, hX⟩ := I11.out
        have HBX := Lib.hid bX
        have HX := Lib.hid hX
        obtain ⟨jX, jX'⟩ := numR_le hX (smQ_add SXI.out SMA.out)
        obtain ⟨qX0, qX1, qX2, _, _, _⟩ := r3_cells bX
        clear bX hX
        obtain ⟨ngY, AY, nY, cY, DY, dY, eY, bY, hY⟩ := I12.out
        have HBY := Lib.hid bY
        have HY := Lib.hid hY
        obtain ⟨jY, jY'⟩ := numR_le hY (smQ_add SYI.out SMB.out)
        obtain ⟨qY0, qY1, qY2, _, _, _⟩ := r3_cells bY
        clear bY hY
        clear I8 I9 I11 I12
        go_upto_region 15 with (fail)
        refine wp_region_head 10 (fun x9 => x9.cell? ⟨g8, 0, none⟩ = some (.bool ngP) ∧ x9.cell? ⟨g8, 1, none⟩ = some (.slice AP nP cP) ∧ x9.cell? ⟨g8, 2, none⟩ = some (.slice DP dP eP) ∧ x9.cell? ⟨g9, 0, none⟩ = some (.bool ngQ) ∧ x9.cell? ⟨g9, 1, none⟩ = some (.slice AQ nQ cQ) ∧ x9.cell? ⟨g9, 2, none⟩ = some (.slice DQ dQ eQ) ∧ x9.cell? ⟨g11, 0, none⟩ = some (.bool ngX) ∧ x9.cell? ⟨g11, 1, none⟩ = some (.slice AX nX cX) ∧ x9.cell? ⟨g11, 2, none⟩ = some (.slice DX dX eX) ∧ x9.cell? ⟨g12, 0, none⟩ = some (.bool ngY) ∧ x9.cell? ⟨g12, 1, none⟩ = some (.slice AY nY cY) ∧ x9.cell? ⟨g12, 2, none⟩ = some (.slice DY dY eY)) (by kernel_rfl) (by kernel_rfl) ?_
        obtain ⟨wc, hwc⟩ : ∃ x : World, x = W.drew := ⟨_, rfl⟩
        have hbn : Below W.heap.size W W.drew := (Below.refl _ _).drew
        have HP := Lib.hid (HP.out.to hbn (Nat.le_refl _) hbn.size)
        have HQ := Lib.hid (HQ.out.to hbn (Nat.le_refl _) hbn.size)
        have HX := Lib.hid (HX.out.to hbn (Nat.le_refl _) hbn.size)
        have HY := Lib.hid (HY.out.to hbn (Nat.le_refl _) hbn.size)
        clear hbn
        have HBc : Hid (Below W.heap.size W wc) := by show Below _ _ _; rw [hwc]; exact (Below.refl _ _).drew
        have hS : wc.cell? ⟨g8, 0, none⟩ = some (.bool ngP) ∧ wc.cell? ⟨g8, 1, none⟩ = some (.slice AP nP cP) ∧ wc.cell? ⟨g8, 2, none⟩ = some (.slice DP dP eP) ∧ wc.cell? ⟨g9, 0, none⟩ = some (.bool ngQ) ∧ wc.cell? ⟨g9, 1, none⟩ = some (.slice AQ nQ cQ) ∧ wc.cell? ⟨g9, 2, none⟩ = some (.slice DQ dQ eQ) ∧ wc.cell? ⟨g11, 0, none⟩ = some (.bool ngX) ∧ wc.cell? ⟨g11, 1, none⟩ = some (.slice AX nX cX) ∧ wc.cell? ⟨g11, 2, none⟩ = some (.slice DX dX eX) ∧ wc.cell? ⟨g12, 0, none⟩ = some (.bool ngY) ∧ wc.cell? ⟨g12, 1, none⟩ = some (.slice AY nY cY) ∧ wc.cell? ⟨g12, 2, none⟩ = some (.slice DY dY eY) := by rw [hwc]; exact ⟨qP0, qP1, qP2, qQ0, qQ1, qQ2, qX0, qX1, qX2, qY0, qY1, qY2⟩
        have hg_0 : g8 < wc.heap.size := by rw [hwc]; exact blk_lt HBP.out
        have hg_1 : g9 < wc.heap.size := by rw [hwc]; exact blk_lt HBQ.out
        have hg_2 : g11 < wc.heap.size := by rw [hwc]; exact blk_lt HBX.out
        have hg_3 : g12 < wc.heap.size := by rw [hwc]; exact blk_lt HBY.out
        rw [← hwc] at HP HQ HX HY
        rw [← hwc]
        clear hwc
        refine HL.take (i := 0) (oi := _) (v := ?_) rfl (by kernel_rfl) (by kernel_rfl) (by decide) (fun _ _ _ h => h) (Or.inl ⟨by rfl, ?_⟩) hS ?_
        rotate_left
        · intro wz hwz
          try dsimp only at hwz
          go_simp
          try with_reducible rfl
        simp only [List.getElem_toArray, List.getElem_cons_succ, List.getElem_cons_zero, Act.put, List.setIfInBounds_toArray, List.set_cons_zero, List.set_cons_succ]
        refine HL.take (i := 1) (oi := _) (v := ?_) rfl (by kernel_rfl) (by kernel_rfl) (by decide) (fun _ _ _ h => h) (Or.inl ⟨by rfl, ?_⟩) hS ?_
        rotate_left
        · intro wz hwz
          try dsimp only at hwz
          go_simp
          try with_reducible rfl
        simp only [List.getElem_toArray, List.getElem_cons_succ, List.getElem_cons_zero, Act.put, List.setIfInBounds_toArray, List.set_cons_zero, List.set_cons_succ]
        refine HL.take (i := 2) (oi := _) (v := ?_) rfl (by kernel_rfl) (by kernel_rfl) (by decide) (fun _ _ _ h => h) (Or.inl ⟨by rfl, ?_⟩) hS ?_
        rotate_left
        · intro wz hwz
          try dsimp only at hwz
          go_simp
          try with_reducible rfl
        simp only [List.getElem_toArray, List.getElem_cons_succ, List.getElem_cons_zero, Act.put, List.setIfInBounds_toArray, List.set_cons_zero, List.set_cons_succ]
        refine HL.take (i := 5) (oi := _) (v := ?_) rfl (by kernel_rfl) (by kernel_rfl) (by decide) (fun _ _ _ h => h) (Or.inl ⟨by rfl, ?_⟩) hS ?_
        rotate_left
        · intro wz hwz
          try dsimp only at hwz
          go_simp
          try with_reducible rfl
        simp only [List.getElem_toArray, List.getElem_cons_succ, List.getElem_cons_zero, Act.put, List.setIfInBounds_toArray, List.set_cons_zero, List.set_cons_succ]
        refine HL.take (i := 6) (oi := _) (v := ?_) rfl (by kernel_rfl) (by kernel_rfl) (by decide) (fun _ _ _ h => h) (Or.inl ⟨by rfl, ?_⟩) hS ?_
        rotate_left
        · intro wz hwz
          try dsimp only at hwz
          go_simp
          try with_reducible rfl
        simp only [List.getElem_toArray, List.getElem_cons_succ, List.getElem_cons_zero, Act.put, List.setIfInBounds_toArray, List.set_cons_zero, List.set_cons_succ]
        refine HL.take (i := 7) (oi := _) (v := ?_) rfl (by kernel_rfl) (by kernel_rfl) (by decide) (fun _ _ _ h => h) (Or.inl ⟨by rfl, ?_⟩) hS ?_
        rotate_left
        · intro wz hwz
          try dsimp only at hwz
          go_simp
          try with_reducible rfl
        simp only [List.getElem_toArray, List.getElem_cons_succ, List.getElem_cons_zero, Act.put, List.setIfInBounds_toArray, List.set_cons_zero, List.set_cons_succ]
        refine HL.one (i := 3) (o := _) rfl (by kernel_rfl) (by decide) (by rfl) ?_
        intro K hK
        go_simp
        refine (RNTIMES_any ngX ngY AX AY DX DY nX cX dX eX nY cY dY eY _ _ (by omega) (by omega) (by omega) (by omega) _ wc.heap.size (Nat.le_refl _) HX HY).mono ?_
        rintro e wn ⟨ng1, A1, n1, c1, D1, d1, e1, rfl, hH1, k1, m1, hbn⟩
        have H1 := Lib.hid hH1
        clear hH1
        clear HY
        replace HP := Lib.hid (HP.out.to hbn (Nat.le_refl _) hbn.size)
        replace HQ := Lib.hid (HQ.out.to hbn (Nat.le_refl _) hbn.size)
        replace HX := Lib.hid (HX.out.to hbn (Nat.le_refl _) hbn.size)
        have HBn := Lib.hid (HBc.out.trans (hbn.mono HBc.out.size))
        have hSn : wn.cell? ⟨g8, 0, none⟩ = some (.bool ngP) ∧ wn.cell? ⟨g8, 1, none⟩ = some (.slice AP nP cP) ∧ wn.cell? ⟨g8, 2, none⟩ = some (.slice DP dP eP) ∧ wn.cell? ⟨g9, 0, none⟩ = some (.bool ngQ) ∧ wn.cell? ⟨g9, 1, none⟩ = some (.slice AQ nQ cQ) ∧ wn.cell? ⟨g9, 2, none⟩ = some (.slice DQ dQ eQ) ∧ wn.cell? ⟨g11, 0, none⟩ = some (.bool ngX) ∧ wn.cell? ⟨g11, 1, none⟩ = some (.slice AX nX cX) ∧ wn.cell? ⟨g11, 2, none⟩ = some (.slice DX dX eX) ∧ wn.cell? ⟨g12, 0, none⟩ = some (.bool ngY) ∧ wn.cell? ⟨g12, 1, none⟩ = some (.slice AY nY cY) ∧ wn.cell? ⟨g12, 2, none⟩ = some (.slice DY dY eY) := ⟨(hbn.cell (p := ⟨g8, 0, none⟩) hg_0).trans hS.1, (hbn.cell (p := ⟨g8, 1, none⟩) hg_0).trans hS.2.1, (hbn.cell (p := ⟨g8, 2, none⟩) hg_0).trans hS.2.2.1, (hbn.cell (p := ⟨g9, 0, none⟩) hg_1).trans hS.2.2.2.1, (hbn.cell (p := ⟨g9, 1, none⟩) hg_1).trans hS.2.2.2.2.1, (hbn.cell (p := ⟨g9, 2, none⟩) hg_1).trans hS.2.2.2.2.2.1, (hbn.cell (p := ⟨g11, 0, none⟩) hg_2).trans hS.2.2.2.2.2.2.1, (hbn.cell (p := ⟨g11, 1, none⟩) hg_2).trans hS.2.2.2.2.2.2.2.1, (hbn.cell (p := ⟨g11, 2, none⟩) hg_2).trans hS.2.2.2.2.2.2.2.2.1, (hbn.cell (p := ⟨g12, 0, none⟩) hg_3).trans hS.2.2.2.2.2.2.2.2.2.1, (hbn.cell (p := ⟨g12, 1, none⟩) hg_3).trans hS.2.2.2.2.2.2.2.2.2.2.1, (hbn.cell (p := ⟨g12, 2, none⟩) hg_3).trans hS.2.2.2.2.2.2.2.2.2.2.2⟩
        have hgn_0 := Nat.lt_of_lt_of_le hg_0 hbn.size
        have hgn_1 := Nat.lt_of_lt_of_le hg_1 hbn.size
        have hgn_2 := Nat.lt_of_lt_of_le hg_2 hbn.size
        have hgn_3 := Nat.lt_of_lt_of_le hg_3 hbn.size
        refine hK.out _ _ hSn ?_
        clear hK K hS HBc hg_0 hg_1 hg_2 hg_3
        try simp only [List.getElem_toArray, List.getElem_cons_succ, List.getElem_cons_zero, Act.put, List.setIfInBounds_toArray, List.set_cons_zero, List.set_cons_succ]
        have hS := hSn
        have HBc := HBn
        have hg_0 := hgn_0
        have hg_1 := hgn_1
        have hg_2 := hgn_2
        have hg_3 := hgn_3
        clear hSn HBn hbn hgn_0 hgn_1 hgn_2 hgn_3
        obtain ⟨wc, rfl⟩ : ∃ x : World, x = wn := ⟨_, rfl⟩
        refine HL.one (i := 4) (o := _) rfl (by kernel_rfl) (by decide) (by rfl) ?_
        intro K hK
        go_simp
        refine (RPLUS_any ngP ng1 AP A1 DP D1 nP cP dP eP n1 c1 d1 e1 _ _ (by omega) (by omega) (by omega) (by omega) _ wc.heap.size (Nat.le_refl _) HP H1).mono ?_
        rintro e wn ⟨ng2, A2, n2, c2, D2, d2, e2, rfl, hH2, k2, m2, hbn⟩
        have H2 := Lib.hid hH2
        clear hH2
        clear HP H1
        replace HQ := Lib.hid (HQ.out.to hbn (Nat.le_refl _) hbn.size)
        replace HX := Lib.hid (HX.out.to hbn (Nat.le_refl _) hbn.size)
        have HBn := Lib.hid (HBc.out.trans (hbn.mono HBc.out.size))
        have hSn : wn.cell? ⟨g8, 0, none⟩ = some (.bool ngP) ∧ wn.cell? ⟨g8, 1, none⟩ = some (.slice AP nP cP) ∧ wn.cell? ⟨g8, 2, none⟩ = some (.slice DP dP eP) ∧ wn.cell? ⟨g9, 0, none⟩ = some (.bool ngQ) ∧ wn.cell? ⟨g9, 1, none⟩ = some (.slice AQ nQ cQ) ∧ wn.cell? ⟨g9, 2, none⟩ = some (.slice DQ dQ eQ) ∧ wn.cell? ⟨g11, 0, none⟩ = some (.bool ngX) ∧ wn.cell? ⟨g11, 1, none⟩ = some (.slice AX nX cX) ∧ wn.cell? ⟨g11, 2, none⟩ = some (.slice DX dX eX) ∧ wn.cell? ⟨g12, 0, none⟩ = some (.bool ngY) ∧ wn.cell? ⟨g12, 1, none⟩ = some (.slice AY nY cY) ∧ wn.cell? ⟨g12, 2, none⟩ = some (.slice DY dY eY) := ⟨(hbn.cell (p := ⟨g8, 0, none⟩) hg_0).trans hS.1, (hbn.cell (p := ⟨g8, 1, none⟩) hg_0).trans hS.2.1, (hbn.cell (p := ⟨g8, 2, none⟩) hg_0).trans hS.2.2.1, (hbn.cell (p := ⟨g9, 0, none⟩) hg_1).trans hS.2.2.2.1, (hbn.cell (p := ⟨g9, 1, none⟩) hg_1).trans hS.2.2.2.2.1, (hbn.cell (p := ⟨g9, 2, none⟩) hg_1).trans hS.2.2.2.2.2.1, (hbn.cell (p := ⟨g11, 0, none⟩) hg_2).trans hS.2.2.2.2.2.2.1, (hbn.cell (p := ⟨g11, 1, none⟩) hg_2).trans hS.2.2.2.2.2.2.2.1, (hbn.cell (p := ⟨g11, 2, none⟩) hg_2).trans hS.2.2.2.2.2.2.2.2.1, (hbn.cell (p := ⟨g12, 0, none⟩) hg_3).trans hS.2.2.2.2.2.2.2.2.2.1, (hbn.cell (p := ⟨g12, 1, none⟩) hg_3).trans hS.2.2.2.2.2.2.2.2.2.2.1, (hbn.cell (p := ⟨g12, 2, none⟩) hg_3).trans hS.2.2.2.2.2.2.2.2.2.2.2⟩
        have hgn_0 := Nat.lt_of_lt_of_le hg_0 hbn.size
        have hgn_1 := Nat.lt_of_lt_of_le hg_1 hbn.size
        have hgn_2 := Nat.lt_of_lt_of_le hg_2 hbn.size
        have hgn_3 := Nat.lt_of_lt_of_le hg_3 hbn.size
        refine hK.out _ _ hSn ?_
        clear hK K hS HBc hg_0 hg_1 hg_2 hg_3
        try simp only [List.getElem_toArray, List.getElem_cons_succ, List.getElem_cons_zero, Act.put, List.setIfInBounds_toArray, List.set_cons_zero, List.set_cons_succ]
        have hS := hSn
        have HBc := HBn
        have hg_0 := hgn_0
        have hg_1 := hgn_1
        have hg_2 := hgn_2
        have hg_3 := hgn_3
        clear hSn HBn hbn hgn_0 hgn_1 hgn_2 hgn_3
        obtain ⟨wc, rfl⟩ : ∃ x : World, x = wn := ⟨_, rfl⟩
        refine HL.one (i := 8) (o := _) rfl (by kernel_rfl) (by decide) (by rfl) ?_
        intro K hK
        go_simp
        refine (RNTIMES_any ngX ngX AX AX DX DX nX cX dX eX nX cX dX eX _ _ (by omega) (by omega) (by omega) (by omega) _ wc.heap.size (Nat.le_refl _) HX HX).mono ?_
        rintro e wn ⟨ng3, A3, n3, c3, D3, d3, e3, rfl, hH3, k3, m3, hbn⟩
        have H3 := Lib.hid hH3
        clear hH3
        clear HX
        replace HQ := Lib.hid (HQ.out.to hbn (Nat.le_refl _) hbn.size)
        replace H2 := Lib.hid (H2.out.to hbn (Nat.le_refl _) hbn.size)
        have HBn := Lib.hid (HBc.out.trans (hbn.mono HBc.out.size))
        have hSn : wn.cell? ⟨g8, 0, none⟩ = some (.bool ngP) ∧ wn.cell? ⟨g8, 1, none⟩ = some (.slice AP nP cP) ∧ wn.cell? ⟨g8, 2, none⟩ = some (.slice DP dP eP) ∧ wn.cell? ⟨g9, 0, none⟩ = some (.bool ngQ) ∧ wn.cell? ⟨g9, 1, none⟩ = some (.slice AQ nQ cQ) ∧ wn.cell? ⟨g9, 2, none⟩ = some (.slice DQ dQ eQ) ∧ wn.cell? ⟨g11, 0, none⟩ = some (.bool ngX) ∧ wn.cell? ⟨g11, 1, none⟩ = some (.slice AX nX cX) ∧ wn.cell? ⟨g11, 2, none⟩ = some (.slice DX dX eX) ∧ wn.cell? ⟨g12, 0, none⟩ = some (.bool ngY) ∧ wn.cell? ⟨g12, 1, none⟩ = some (.slice AY nY cY) ∧ wn.cell? ⟨g12, 2, none⟩ = some (.slice DY dY eY) := ⟨(hbn.cell (p := ⟨g8, 0, none⟩) hg_0).trans hS.1, (hbn.cell (p := ⟨g8, 1, none⟩) hg_0).trans hS.2.1, (hbn.cell (p := ⟨g8, 2, none⟩) hg_0).trans hS.2.2.1, (hbn.cell (p := ⟨g9, 0, none⟩) hg_1).trans hS.2.2.2.1, (hbn.cell (p := ⟨g9, 1, none⟩) hg_1).trans hS.2.2.2.2.1, (hbn.cell (p := ⟨g9, 2, none⟩) hg_1).trans hS.2.2.2.2.2.1, (hbn.cell (p := ⟨g11, 0, none⟩) hg_2).trans hS.2.2.2.2.2.2.1, (hbn.cell (p := ⟨g11, 1, none⟩) hg_2).trans hS.2.2.2.2.2.2.2.1, (hbn.cell (p := ⟨g11, 2, none⟩) hg_2).trans hS.2.2.2.2.2.2.2.2.1, (hbn.cell (p := ⟨g12, 0, none⟩) hg_3).trans hS.2.2.2.2.2.2.2.2.2.1, (hbn.cell (p := ⟨g12, 1, none⟩) hg_3).trans hS.2.2.2.2.2.2.2.2.2.2.1, (hbn.cell (p := ⟨g12, 2, none⟩) hg_3).trans hS.2.2.2.2.2.2.2.2.2.2.2⟩
        have hgn_0 := Nat.lt_of_lt_of_le hg_0 hbn.size
        have hgn_1 := Nat.lt_of_lt_of_le hg_1 hbn.size
        have hgn_2 := Nat.lt_of_lt_of_le hg_2 hbn.size
        have hgn_3 := Nat.lt_of_lt_of_le hg_3 hbn.size
        refine hK.out _ _ hSn ?_
        clear hK K hS HBc hg_0 hg_1 hg_2 hg_3
        try simp only [List.getElem_toArray, List.getElem_cons_succ, List.getElem_cons_zero, Act.put, List.setIfInBounds_toArray, List.set_cons_zero, List.set_cons_succ]
        have hS := hSn
        have HBc := HBn
        have hg_0 := hgn_0
        have hg_1 := hgn_1
        have hg_2 := hgn_2
        have hg_3 := hgn_3
        clear hSn HBn hbn hgn_0 hgn_1 hgn_2 hgn_3
        obtain ⟨wc, rfl⟩ : ∃ x : World, x = wn := ⟨_, rfl⟩
        refine HL.one (i := 9) (o := _) rfl (by kernel_rfl) (by decide) (by rfl) ?_
        intro K hK
        go_simp
        refine (RPLUS_any ngQ ng3 AQ A3 DQ D3 nQ cQ dQ eQ n3 c3 d3 e3 _ _ (by omega) (by omega) (by omega) (by omega) _ wc.heap.size (Nat.le_refl _) HQ H3).mono ?_
        rintro e wn ⟨ng4, A4, n4, c4, D4, d4, e4, rfl, hH4, k4, m4, hbn⟩
        have H4 := Lib.hid hH4
        clear hH4
        clear HQ H3
        replace H2 := Lib.hid (H2.out.to hbn (Nat.le_refl _) hbn.size)
        have HBn := Lib.hid (HBc.out.trans (hbn.mono HBc.out.size))
        have hSn : wn.cell? ⟨g8, 0, none⟩ = some (.bool ngP) ∧ wn.cell? ⟨g8, 1, none⟩ = some (.slice AP nP cP) ∧ wn.cell? ⟨g8, 2, none⟩ = some (.slice DP dP eP) ∧ wn.cell? ⟨g9, 0, none⟩ = some (.bool ngQ) ∧ wn.cell? ⟨g9, 1, none⟩ = some (.slice AQ nQ cQ) ∧ wn.cell? ⟨g9, 2, none⟩ = some (.slice DQ dQ eQ) ∧ wn.cell? ⟨g11, 0, none⟩ = some (.bool ngX) ∧ wn.cell? ⟨g11, 1, none⟩ = some (.slice AX nX cX) ∧ wn.cell? ⟨g11, 2, none⟩ = some (.slice DX dX eX) ∧ wn.cell? ⟨g12, 0, none⟩ = some (.bool ngY) ∧ wn.cell? ⟨g12, 1, none⟩ = some (.slice AY nY cY) ∧ wn.cell? ⟨g12, 2, none⟩ = some (.slice DY dY eY) := ⟨(hbn.cell (p := ⟨g8, 0, none⟩) hg_0).trans hS.1, (hbn.cell (p := ⟨g8, 1, none⟩) hg_0).trans hS.2.1, (hbn.cell (p := ⟨g8, 2, none⟩) hg_0).trans hS.2.2.1, (hbn.cell (p := ⟨g9, 0, none⟩) hg_1).trans hS.2.2.2.1, (hbn.cell (p := ⟨g9, 1, none⟩) hg_1).trans hS.2.2.2.2.1, (hbn.cell (p := ⟨g9, 2, none⟩) hg_1).trans hS.2.2.2.2.2.1, (hbn.cell (p := ⟨g11, 0, none⟩) hg_2).trans hS.2.2.2.2.2.2.1, (hbn.cell (p := ⟨g11, 1, none⟩) hg_2).trans hS.2.2.2.2.2.2.2.1, (hbn.cell (p := ⟨g11, 2, none⟩) hg_2).trans hS.2.2.2.2.2.2.2.2.1, (hbn.cell (p := ⟨g12, 0, none⟩) hg_3).trans hS.2.2.2.2.2.2.2.2.2.1, (hbn.cell (p := ⟨g12, 1, none⟩) hg_3).trans hS.2.2.2.2.2.2.2.2.2.2.1, (hbn.cell (p := ⟨g12, 2, none⟩) hg_3).trans hS.2.2.2.2.2.2.2.2.2.2.2⟩
        have hgn_0 := Nat.lt_of_lt_of_le hg_0 hbn.size
        have hgn_1 := Nat.lt_of_lt_of_le hg_1 hbn.size
        have hgn_2 := Nat.lt_of_lt_of_le hg_2 hbn.size
        have hgn_3 := Nat.lt_of_lt_of_le hg_3 hbn.size
        refine hK.out _ _ hSn ?_
        clear hK K hS HBc hg_0 hg_1 hg_2 hg_3
        try simp only [List.getElem_toArray, List.getElem_cons_succ, List.getElem_cons_zero, Act.put, List.setIfInBounds_toArray, List.set_cons_zero, List.set_cons_succ]
        have hS := hSn
        have HBc := HBn
        have hg_0 := hgn_0
        have hg_1 := hgn_1
        have hg_2 := hgn_2
        have hg_3 := hgn_3
        clear hSn HBn hbn hgn_0 hgn_1 hgn_2 hgn_3
        obtain ⟨wc, rfl⟩ : ∃ x : World, x = wn := ⟨_, rfl⟩
        have E1 := Lib.hid ((HBc.out.block g8 (blk_lt HBP.out)).trans HBP.out)
        have E2 := Lib.hid ((HBc.out.block g9 (blk_lt HBQ.out)).trans HBQ.out)
        obtain ⟨r50, r51, r52, f50, f51, f52⟩ := r3_cells E1.out
        obtain ⟨r60, r61, r62, f60, f61, f62⟩ := r3_cells E2.out
        have I5' := Lib.hid (I5.out.below HBc.out)
        have I6' := Lib.hid (I6.out.below HBc.out)
        refine HL.done (by kernel_rfl) ?_
        clear hS
        simp only [List.drop_succ_cons, List.drop_zero]
        obtain ⟨V, hV, R1, R2, RF, RB⟩ := rbox_two E1.out E2.out D89.out H2.out H4.out
        have hd1 : ¬ g8 = g9 := D89.out
        have hd2 : ¬ g9 = g8 := Ne.symm D89.out
        have J5 := Lib.hid (RF.out g5 _ D58.out D59.out I5'.out)
        have J6 := Lib.hid (RF.out g6 _ D68.out D69.out I6'.out)
        have HBV2 : Hid (Below w.heap.size w V) := RB.out _ _ G8.out G9.out (HBA.out.trans (HBc.out.mono HBA.out.size))
        clear E1 E2 HBP HBQ HBX HBY H2 H4 RF RB I5 I6 I5' I6'
        go_wp2_with fail
        rw [← hV]
        clear hV r50 r51 r52 r60 r61 r62 f50 f51 f52 f60 f61 f62
        go_roundw
        case rel => exact ⟨k + 1, by omega, by go_num, J5, J6, by rw [SU.out]; exact R1, by rw [SD.out]; exact R2, HBV2⟩
        case measure => simp [intOf]; omega
        -- H2 H4
      · obtain rfl : k = n := by omega
        go_wp2_with fail
        go_meet
        exact ⟨I5, I6, I8, I9, HBA⟩
  case rest =>
  clear IA IB IU ID HBA
  obtain ⟨I5, I6, I8, I9, HBA⟩ := hcut
  obtain ⟨W, rfl⟩ : ∃ x : World, x = wc := ⟨_, rfl⟩
  have hkk : n ≤ l.length := by rw [hl.out]; exact Nat.le_refl _
  have HDN : Hid (dnQ l (meanA l) n ≠ 0) := by have h := HFM.out.1; rw [hl.out] at h; exact h
  have HSL : Hid (upQ l (meanA l) (meanB l) n / dnQ l (meanA l) n = fitA l) := by have h := HFM.out.2.1; rw [hl.out] at h; exact h
  have HFB : Hid (meanB l + -(fitA l * meanA l) = fitB l) := HFM.out.2.2
  obtain ⟨ngP, AP, nP, cP, DP, dP, eP, bP, hP⟩ := I8.out
  have HBP := Lib.hid bP
  have HP := Lib.hid hP
  obtain ⟨jP, jP'⟩ := numR_le hP (HSZ.out.2.2.1 n hkk)
  obtain ⟨qP0, qP1, qP2, _, _, _⟩ := r3_cells bP
  clear bP hP
  obtain ⟨ngQ, AQ, nQ, cQ, DQ, dQ, eQ, bQ, hQ⟩ := I9.out
  have HBQ := Lib.hid bQ
  have HQ := Lib.hid hQ
  obtain ⟨jQ, jQ'⟩ := numR_le hQ (HSZ.out.2.2.2.1 n hkk)
  obtain ⟨qQ0, qQ1, qQ2, _, _, _⟩ := r3_cells bQ
  clear bQ hQ
  clear I8 I9
  go_wp2_with fail
  refine (ROVER_any ngP ngQ AP AQ DP DQ nP cP dP eP nQ cQ dQ eQ _ _ (by omega) (by omega) (by omega) (by omega) HDN.out _ W.heap.size (Nat.le_refl _) HP HQ).mono ?_
  rw [HSL.out]
  rintro e w5 ⟨ng1, A1, n1, c1, D1, d1, e1, rfl, h1, _, _, hb5⟩
  replace I5 := Lib.hid (I5.out.below hb5)
  replace I6 := Lib.hid (I6.out.below hb5)
  replace HBA := Lib.hid (HBA.out.trans (hb5.mono HBA.out.size))
  have H1 := Lib.hid h1
  clear hb5 h1 HP HQ HBP HBQ qP0 qP1 qP2 qQ0 qQ1 qQ2
  go_upto_region 17 with (fail)
  obtain ⟨W5, g13, hW5, hg13, HG13, HBW5, HSW5⟩ := rcell_new w5 50 #[.bool ng1, .slice A1 n1 c1, .slice D1 d1 e1]
  have IS : Hid (RBox W5 g13 (fitA l)) := ⟨_, _, _, _, _, _, _, HG13.out, H1.out.to HBW5.out (Nat.le_refl _) HBW5.out.size⟩
  replace I5 := Lib.hid (I5.out.below HBW5.out)
  replace I6 := Lib.hid (I6.out.below HBW5.out)
  replace HBA := Lib.hid (HBA.out.trans (HBW5.out.mono HBA.out.size))
  rw [← hW5, ← hg13]
  clear hW5 hg13 HG13 HBW5 HSW5 H1
  obtain ⟨W, rfl⟩ : ∃ x : World, x = W5 := ⟨_, rfl⟩
  have HTB : Hid (TabAt W) := ht.out.below HBA.out
  obtain ⟨ngS, AS, nS, cS, DS, dS, eS, bS, hS⟩ := IS.out
  have HBS := Lib.hid bS
  have HS := Lib.hid hS
  obtain ⟨jS, jS'⟩ := numR_le hS HFS.out.1
  obtain ⟨qS0, qS1, qS2, _, _, _⟩ := r3_cells bS
  clear bS hS
  obtain ⟨ngV, AV, nV, cV, DV, dV, eV, bV, hV⟩ := I6.out
  have HBV := Lib.hid bV
  have HV := Lib.hid hV
  obtain ⟨jV, jV'⟩ := numR_le hV HSZ.out.2.1
  obtain ⟨qV0, qV1, qV2, _, _, _⟩ := r3_cells bV
  clear bV hV
  obtain ⟨ngU, AU, nU, cU, DU, dU, eU, bU, hU⟩ := I5.out
  have HBU := Lib.hid bU
  have HU := Lib.hid hU
  obtain ⟨jU, jU'⟩ := numR_le hU HSZ.out.1
  obtain ⟨qU0, qU1, qU2, _, _, _⟩ := r3_cells bU
  clear bU hU
  have HS0 := HS
  clear IS I5 I6 HS
  refine wp_region_head 10 (fun x9 => x9.cell? ⟨g13, 0, none⟩ = some (.bool ngS) ∧ x9.cell? ⟨g13, 1, none⟩ = some (.slice AS nS cS) ∧ x9.cell? ⟨g13, 2, none⟩ = some (.slice DS dS eS) ∧ x9.cell? ⟨g6, 0, none⟩ = some (.bool ngV) ∧ x9.cell? ⟨g6, 1, none⟩ = some (.slice AV nV cV) ∧ x9.cell? ⟨g6, 2, none⟩ = some (.slice DV dV eV) ∧ x9.cell? ⟨g5, 0, none⟩ = some (.bool ngU) ∧ x9.cell? ⟨g5, 1, none⟩ = some (.slice AU nU cU) ∧ x9.cell? ⟨g5, 2, none⟩ = some (.slice DU dU eU)) (by kernel_rfl) (by kernel_rfl) ?_
  obtain ⟨wc, hwc⟩ : ∃ x : World, x = W.drew := ⟨_, rfl⟩
  have hbn : Below W.heap.size W W.drew := (Below.refl _ _).drew
  have HS0 := Lib.hid (HS0.out.to hbn (Nat.le_refl _) hbn.size)
  have HV := Lib.hid (HV.out.to hbn (Nat.le_refl _) hbn.size)
  have HU := Lib.hid (HU.out.to hbn (Nat.le_refl _) hbn.size)
  have HTB := Lib.hid (HTB.out.below hbn)
  clear hbn
  have HBc : Hid (Below W.heap.size W wc) := by show Below _ _ _; rw [hwc]; exact (Below.refl _ _).drew
  have hS : wc.cell? ⟨g13, 0, none⟩ = some (.bool ngS) ∧ wc.cell? ⟨g13, 1, none⟩ = some (.slice AS nS cS) ∧ wc.cell? ⟨g13, 2, none⟩ = some (.slice DS dS eS) ∧ wc.cell? ⟨g6, 0, none⟩ = some (.bool ngV) ∧ wc.cell? ⟨g6, 1, none⟩ = some (.slice AV nV cV) ∧ wc.cell? ⟨g6, 2, none⟩ = some (.slice DV dV eV) ∧ wc.cell? ⟨g5, 0, none⟩ = some (.bool ngU) ∧ wc.cell? ⟨g5, 1, none⟩ = some (.slice AU nU cU) ∧ wc.cell? ⟨g5, 2, none⟩ = some (.slice DU dU eU) := by rw [hwc]; exact ⟨qS0, qS1, qS2, qV0, qV1, qV2, qU0, qU1, qU2⟩
  have hg_0 : g13 < wc.heap.size := by rw [hwc]; exact blk_lt HBS.out
  have hg_1 : g6 < wc.heap.size := by rw [hwc]; exact blk_lt HBV.out
  have hg_2 : g5 < wc.heap.size := by rw [hwc]; exact blk_lt HBU.out
  rw [← hwc] at HS0 HV HU HTB
  rw [← hwc]
  clear hwc
  refine HL.take (i := 0) (oi := _) (v := ?_) rfl (by kernel_rfl) (by kernel_rfl) (by decide) (fun _ _ _ h => h) (Or.inl ⟨by rfl, ?_⟩) hS ?_
  rotate_left
  · intro wz hwz
    try dsimp only at hwz
    go_simp
    try with_reducible rfl
  simp only [List.getElem_toArray, List.getElem_cons_succ, List.getElem_cons_zero, Act.put, List.setIfInBounds_toArray, List.set_cons_zero, List.set_cons_succ]
  refine HL.take (i := 2) (oi := _) (v := ?_) rfl (by kernel_rfl) (by kernel_rfl) (by decide) (fun _ _ _ h => h) (Or.inl ⟨by rfl, ?_⟩) hS ?_
  rotate_left
  · intro wz hwz
    try dsimp only at hwz
    go_simp
    try with_reducible rfl
  simp only [List.getElem_toArray, List.getElem_cons_succ, List.getElem_cons_zero, Act.put, List.setIfInBounds_toArray, List.set_cons_zero, List.set_cons_succ]
  refine HL.take (i := 3) (oi := _) (v := ?_) rfl (by kernel_rfl) (by kernel_rfl) (by decide) (fun _ _ _ h => h) (Or.inl ⟨by rfl, ?_⟩) hS ?_
  rotate_left
  · intro wz hwz
    try dsimp only at hwz
    go_simp
    try with_reducible rfl
  simp only [List.getElem_toArray, List.getElem_cons_succ, List.getElem_cons_zero, Act.put, List.setIfInBounds_toArray, List.set_cons_zero, List.set_cons_succ]
  refine HL.take (i := 4) (oi := _) (v := ?_) rfl (by kernel_rfl) (by kernel_rfl) (by decide) (fun _ _ _ h => h) (Or.inl ⟨by rfl, ?_⟩) hS ?_
  rotate_left
  · intro wz hwz
    try dsimp only at hwz
    go_simp
    try with_reducible rfl
  simp only [List.getElem_toArray, List.getElem_cons_succ, List.getElem_cons_zero, Act.put, List.setIfInBounds_toArray, List.set_cons_zero, List.set_cons_succ]
  refine HL.one (i := 1) (o := _) rfl (by kernel_rfl) (by decide) (by rfl) ?_
  intro K hK
  go_simp
  refine (ROUT_any ngS AS DS nS cS dS eS _ (by omega) (by omega) _ HTB wc.heap.size (Nat.le_refl _) HS0).mono ?_
  rintro e wn ⟨rfl, hbn⟩
  replace HS0 := Lib.hid (HS0.out.to hbn (Nat.le_refl _) hbn.size)
  replace HV := Lib.hid (HV.out.to hbn (Nat.le_refl _) hbn.size)
  replace HU := Lib.hid (HU.out.to hbn (Nat.le_refl _) hbn.size)
  replace HTB := Lib.hid (HTB.out.below hbn)
  have HBn := Lib.hid (HBc.out.trans (hbn.mono HBc.out.size))
  have hSn : wn.cell? ⟨g13, 0, none⟩ = some (.bool ngS) ∧ wn.cell? ⟨g13, 1, none⟩ = some (.slice AS nS cS) ∧ wn.cell? ⟨g13, 2, none⟩ = some (.slice DS dS eS) ∧ wn.cell? ⟨g6, 0, none⟩ = some (.bool ngV) ∧ wn.cell? ⟨g6, 1, none⟩ = some (.slice AV nV cV) ∧ wn.cell? ⟨g6, 2, none⟩ = some (.slice DV dV eV) ∧ wn.cell? ⟨g5, 0, none⟩ = some (.bool ngU) ∧ wn.cell? ⟨g5, 1, none⟩ = some (.slice AU nU cU) ∧ wn.cell? ⟨g5, 2, none⟩ = some (.slice DU dU eU) := ⟨(hbn.cell (p := ⟨g13, 0, none⟩) hg_0).trans hS.1, (hbn.cell (p := ⟨g13, 1, none⟩) hg_0).trans hS.2.1, (hbn.cell (p := ⟨g13, 2, none⟩) hg_0).trans hS.2.2.1, (hbn.cell (p := ⟨g6, 0, none⟩) hg_1).trans hS.2.2.2.1, (hbn.cell (p := ⟨g6, 1, none⟩) hg_1).trans hS.2.2.2.2.1, (hbn.cell (p := ⟨g6, 2, none⟩) hg_1).trans hS.2.2.2.2.2.1, (hbn.cell (p := ⟨g5, 0, none⟩) hg_2).trans hS.2.2.2.2.2.2.1, (hbn.cell (p := ⟨g5, 1, none⟩) hg_2).trans hS.2.2.2.2.2.2.2.1, (hbn.cell (p := ⟨g5, 2, none⟩) hg_2).trans hS.2.2.2.2.2.2.2.2⟩
  have hgn_0 := Nat.lt_of_lt_of_le hg_0 hbn.size
  have hgn_1 := Nat.lt_of_lt_of_le hg_1 hbn.size
  have hgn_2 := Nat.lt_of_lt_of_le hg_2 hbn.size
  refine hK.out _ _ hSn ?_
  clear hK K hS HBc hg_0 hg_1 hg_2
  try simp only [List.getElem_toArray, List.getElem_cons_succ, List.getElem_cons_zero, Act.put, List.setIfInBounds_toArray, List.set_cons_zero, List.set_cons_succ]
  have hS := hSn
  have HBc := HBn
  have hg_0 := hgn_0
  have hg_1 := hgn_1
  have hg_2 := hgn_2
  clear hSn HBn hbn hgn_0 hgn_1 hgn_2
  obtain ⟨wc, rfl⟩ : ∃ x : World, x = wn := ⟨_, rfl⟩
  refine HL.one (i := 5) (o := _) rfl (by kernel_rfl) (by decide) (by rfl) ?_
  intro K hK
  go_simp
  refine (RNTIMES_any ngS ngU AS AU DS DU nS cS dS eS nU cU dU eU _ _ (by omega) (by omega) (by omega) (by omega) _ wc.heap.size (Nat.le_refl _) HS0 HU).mono ?_
  rintro e wn ⟨ng2, A2, n2, c2, D2, d2, e2, rfl, hH2, k2, m2, hbn⟩
  have H2 := Lib.hid hH2
  clear hH2
  clear HS0 HU
  replace HV := Lib.hid (HV.out.to hbn (Nat.le_refl _) hbn.size)
  replace HTB := Lib.hid (HTB.out.below hbn)
  have HBn := Lib.hid (HBc.out.trans (hbn.mono HBc.out.size))
  have hSn : wn.cell? ⟨g13, 0, none⟩ = some (.bool ngS) ∧ wn.cell? ⟨g13, 1, none⟩ = some (.slice AS nS cS) ∧ wn.cell? ⟨g13, 2, none⟩ = some (.slice DS dS eS) ∧ wn.cell? ⟨g6, 0, none⟩ = some (.bool ngV) ∧ wn.cell? ⟨g6, 1, none⟩ = some (.slice AV nV cV) ∧ wn.cell? ⟨g6, 2, none⟩ = some (.slice DV dV eV) ∧ wn.cell? ⟨g5, 0, none⟩ = some (.bool ngU) ∧ wn.cell? ⟨g5, 1, none⟩ = some (.slice AU nU cU) ∧ wn.cell? ⟨g5, 2, none⟩ = some (.slice DU dU eU) := ⟨(hbn.cell (p := ⟨g13, 0, none⟩) hg_0).trans hS.1, (hbn.cell (p := ⟨g13, 1, none⟩) hg_0).trans hS.2.1, (hbn.cell (p := ⟨g13, 2, none⟩) hg_0).trans hS.2.2.1, (hbn.cell (p := ⟨g6, 0, none⟩) hg_1).trans hS.2.2.2.1, (hbn.cell (p := ⟨g6, 1, none⟩) hg_1).trans hS.2.2.2.2.1, (hbn.cell (p := ⟨g6, 2, none⟩) hg_1).trans hS.2.2.2.2.2.1, (hbn.cell (p := ⟨g5, 0, none⟩) hg_2).trans hS.2.2.2.2.2.2.1, (hbn.cell (p := ⟨g5, 1, none⟩) hg_2).trans hS.2.2.2.2.2.2.2.1, (hbn.cell (p := ⟨g5, 2, none⟩) hg_2).trans hS.2.2.2.2.2.2.2.2⟩
  have hgn_0 := Nat.lt_of_lt_of_le hg_0 hbn.size
  have hgn_1 := Nat.lt_of_lt_of_le hg_1 hbn.size
  have hgn_2 := Nat.lt_of_lt_of_le hg_2 hbn.size
  refine hK.out _ _ hSn ?_
  clear hK K hS HBc hg_0 hg_1 hg_2
  try simp only [List.getElem_toArray, List.getElem_cons_succ, List.getElem_cons_zero, Act.put, List.setIfInBounds_toArray, List.set_cons_zero, List.set_cons_succ]
  have hS := hSn
  have HBc := HBn
  have hg_0 := hgn_0
  have hg_1 := hgn_1
  have hg_2 := hgn_2
  clear hSn HBn hbn hgn_0 hgn_1 hgn_2
  obtain ⟨wc, rfl⟩ : ∃ x : World, x = wn := ⟨_, rfl⟩
  refine HL.one (i := 6) (o := _) rfl (by kernel_rfl) (by decide) (by rfl) ?_
  intro K hK
  go_simp
  refine (RMINUS_any ng2 A2 D2 n2 c2 d2 e2 _ _ wc.heap.size (Nat.le_refl _) H2).mono ?_
  rintro e wn ⟨ng3, A3, n3, c3, D3, d3, e3, rfl, hH3, k3, m3, hbn⟩
  have H3 := Lib.hid hH3
  clear hH3
  clear H2
  replace HV := Lib.hid (HV.out.to hbn (Nat.le_refl _) hbn.size)
  replace HTB := Lib.hid (HTB.out.below hbn)
  have HBn := Lib.hid (HBc.out.trans (hbn.mono HBc.out.size))
  have hSn : wn.cell? ⟨g13, 0, none⟩ = some (.bool ngS) ∧ wn.cell? ⟨g13, 1, none⟩ = some (.slice AS nS cS) ∧ wn.cell? ⟨g13, 2, none⟩ = some (.slice DS dS eS) ∧ wn.cell? ⟨g6, 0, none⟩ = some (.bool ngV) ∧ wn.cell? ⟨g6, 1, none⟩ = some (.slice AV nV cV) ∧ wn.cell? ⟨g6, 2, none⟩ = some (.slice DV dV eV) ∧ wn.cell? ⟨g5, 0, none⟩ = some (.bool ngU) ∧ wn.cell? ⟨g5, 1, none⟩ = some (.slice AU nU cU) ∧ wn.cell? ⟨g5, 2, none⟩ = some (.slice DU dU eU) := ⟨(hbn.cell (p := ⟨g13, 0, none⟩) hg_0).trans hS.1, (hbn.cell (p := ⟨g13, 1, none⟩) hg_0).trans hS.2.1, (hbn.cell (p := ⟨g13, 2, none⟩) hg_0).trans hS.2.2.1, (hbn.cell (p := ⟨g6, 0, none⟩) hg_1).trans hS.2.2.2.1, (hbn.cell (p := ⟨g6, 1, none⟩) hg_1).trans hS.2.2.2.2.1, (hbn.cell (p := ⟨g6, 2, none⟩) hg_1).trans hS.2.2.2.2.2.1, (hbn.cell (p := ⟨g5, 0, none⟩) hg_2).trans hS.2.2.2.2.2.2.1, (hbn.cell (p := ⟨g5, 1, none⟩) hg_2).trans hS.2.2.2.2.2.2.2.1, (hbn.cell (p := ⟨g5, 2, none⟩) hg_2).trans hS.2.2.2.2.2.2.2.2⟩
  have hgn_0 := Nat.lt_of_lt_of_le hg_0 hbn.size
  have hgn_1 := Nat.lt_of_lt_of_le hg_1 hbn.size
  have hgn_2 := Nat.lt_of_lt_of_le hg_2 hbn.size
  refine hK.out _ _ hSn ?_
  clear hK K hS HBc hg_0 hg_1 hg_2
  try simp only [List.getElem_toArray, List.getElem_cons_succ, List.getElem_cons_zero, Act.put, List.setIfInBounds_toArray, List.set_cons_zero, List.set_cons_succ]
  have hS := hSn
  have HBc := HBn
  have hg_0 := hgn_0
  have hg_1 := hgn_1
  have hg_2 := hgn_2
  clear hSn HBn hbn hgn_0 hgn_1 hgn_2
  obtain ⟨wc, rfl⟩ : ∃ x : World, x = wn := ⟨_, rfl⟩
  refine HL.one (i := 7) (o := _) rfl (by kernel_rfl) (by decide) (by rfl) ?_
  intro K hK
  go_simp
  refine (RPLUS_any ngV ng3 AV A3 DV D3 nV cV dV eV n3 c3 d3 e3 _ _ (by omega) (by omega) (by omega) (by omega) _ wc.heap.size (Nat.le_refl _) HV H3).mono ?_
  rintro e wn ⟨ng4, A4, n4, c4, D4, d4, e4, rfl, hH4, k4, m4, hbn⟩
  have H4 := Lib.hid hH4
  clear hH4
  clear HV H3
  replace HTB := Lib.hid (HTB.out.below hbn)
  have HBn := Lib.hid (HBc.out.trans (hbn.mono HBc.out.size))
  have hSn : wn.cell? ⟨g13, 0, none⟩ = some (.bool ngS) ∧ wn.cell? ⟨g13, 1, none⟩ = some (.slice AS nS cS) ∧ wn.cell? ⟨g13, 2, none⟩ = some (.slice DS dS eS) ∧ wn.cell? ⟨g6, 0, none⟩ = some (.bool ngV) ∧ wn.cell? ⟨g6, 1, none⟩ = some (.slice AV nV cV) ∧ wn.cell? ⟨g6, 2, none⟩ = some (.slice DV dV eV) ∧ wn.cell? ⟨g5, 0, none⟩ = some (.bool ngU) ∧ wn.cell? ⟨g5, 1, none⟩ = some (.slice AU nU cU) ∧ wn.cell? ⟨g5, 2, none⟩ = some (.slice DU dU eU) := ⟨(hbn.cell (p := ⟨g13, 0, none⟩) hg_0).trans hS.1, (hbn.cell (p := ⟨g13, 1, none⟩) hg_0).trans hS.2.1, (hbn.cell (p := ⟨g13, 2, none⟩) hg_0).trans hS.2.2.1, (hbn.cell (p := ⟨g6, 0, none⟩) hg_1).trans hS.2.2.2.1, (hbn.cell (p := ⟨g6, 1, none⟩) hg_1).trans hS.2.2.2.2.1, (hbn.cell (p := ⟨g6, 2, none⟩) hg_1).trans hS.2.2.2.2.2.1, (hbn.cell (p := ⟨g5, 0, none⟩) hg_2).trans hS.2.2.2.2.2.2.1, (hbn.cell (p := ⟨g5, 1, none⟩) hg_2).trans hS.2.2.2.2.2.2.2.1, (hbn.cell (p := ⟨g5, 2, none⟩) hg_2).trans hS.2.2.2.2.2.2.2.2⟩
  have hgn_0 := Nat.lt_of_lt_of_le hg_0 hbn.size
  have hgn_1 := Nat.lt_of_lt_of_le hg_1 hbn.size
  have hgn_2 := Nat.lt_of_lt_of_le hg_2 hbn.size
  refine hK.out _ _ hSn ?_
  clear hK K hS HBc hg_0 hg_1 hg_2
  try simp only [List.getElem_toArray, List.getElem_cons_succ, List.getElem_cons_zero, Act.put, List.setIfInBounds_toArray, List.set_cons_zero, List.set_cons_succ]
  have hS := hSn
  have HBc := HBn
  have hg_0 := hgn_0
  have hg_1 := hgn_1
  have hg_2 := hgn_2
  clear hSn HBn hbn hgn_0 hgn_1 hgn_2
  obtain ⟨wc, rfl⟩ : ∃ x : World, x = wn := ⟨_, rfl⟩
  refine HL.one (i := 8) (o := _) rfl (by kernel_rfl) (by decide) (by rfl) ?_
  intro K hK
  go_simp
  refine (ROUT_any ng4 A4 D4 n4 c4 d4 e4 _ (by omega) (by omega) _ HTB wc.heap.size (Nat.le_refl _) H4).mono ?_
  rintro e wn ⟨rfl, hbn⟩
  clear H4
  replace HTB := Lib.hid (HTB.out.below hbn)
  have HBn := Lib.hid (HBc.out.trans (hbn.mono HBc.out.size))
  have hSn : wn.cell? ⟨g13, 0, none⟩ = some (.bool ngS) ∧ wn.cell? ⟨g13, 1, none⟩ = some (.slice AS nS cS) ∧ wn.cell? ⟨g13, 2, none⟩ = some (.slice DS dS eS) ∧ wn.cell? ⟨g6, 0, none⟩ = some (.bool ngV) ∧ wn.cell? ⟨g6, 1, none⟩ = some (.slice AV nV cV) ∧ wn.cell? ⟨g6, 2, none⟩ = some (.slice DV dV eV) ∧ wn.cell? ⟨g5, 0, none⟩ = some (.bool ngU) ∧ wn.cell? ⟨g5, 1, none⟩ = some (.slice AU nU cU) ∧ wn.cell? ⟨g5, 2, none⟩ = some (.slice DU dU eU) := ⟨(hbn.cell (p := ⟨g13, 0, none⟩) hg_0).trans hS.1, (hbn.cell (p := ⟨g13, 1, none⟩) hg_0).trans hS.2.1, (hbn.cell (p := ⟨g13, 2, none⟩) hg_0).trans hS.2.2.1, (hbn.cell (p := ⟨g6, 0, none⟩) hg_1).trans hS.2.2.2.1, (hbn.cell (p := ⟨g6, 1, none⟩) hg_1).trans hS.2.2.2.2.1, (hbn.cell (p := ⟨g6, 2, none⟩) hg_1).trans hS.2.2.2.2.2.1, (hbn.cell (p := ⟨g5, 0, none⟩) hg_2).trans hS.2.2.2.2.2.2.1, (hbn.cell (p := ⟨g5, 1, none⟩) hg_2).trans hS.2.2.2.2.2.2.2.1, (hbn.cell (p := ⟨g5, 2, none⟩) hg_2).trans hS.2.2.2.2.2.2.2.2⟩
  have hgn_0 := Nat.lt_of_lt_of_le hg_0 hbn.size
  have hgn_1 := Nat.lt_of_lt_of_le hg_1 hbn.size
  have hgn_2 := Nat.lt_of_lt_of_le hg_2 hbn.size
  refine hK.out _ _ hSn ?_
  clear hK K hS HBc hg_0 hg_1 hg_2
  try simp only [List.getElem_toArray, List.getElem_cons_succ, List.getElem_cons_zero, Act.put, List.setIfInBounds_toArray, List.set_cons_zero, List.set_cons_succ]
  have hS := hSn
  have HBc := HBn
  have hg_0 := hgn_0
  have hg_1 := hgn_1
  have hg_2 := hgn_2
  clear hSn HBn hbn hgn_0 hgn_1 hgn_2
  obtain ⟨wc, rfl⟩ : ∃ x : World, x = wn := ⟨_, rfl⟩
  refine HL.take (i := 9) (oi := _) (v := ?_) rfl (by kernel_rfl) (by kernel_rfl) (by decide) (fun _ _ _ h => h) (Or.inl ⟨by rfl, ?_⟩) hS ?_
  rotate_left
  · intro wz hwz
    try dsimp only at hwz
    go_simp
    try with_reducible rfl
  simp only [List.getElem_toArray, List.getElem_cons_succ, List.getElem_cons_zero, Act.put, List.setIfInBounds_toArray, List.set_cons_zero, List.set_cons_succ]
  have HL5 := Lib.hid ((HBc.out.block gl (Nat.lt_of_lt_of_le (blk_lt HHL.out) HBA.out.size)).trans ((HBA.out.block gl (blk_lt HHL.out)).trans HHL.out))
  obtain ⟨c0, c1, c2, c3, f0, f1, f2, f3⟩ := four_cells HL5.out
  have HBF := Lib.hid (HBL.out.trans ((HBA.out.trans (HBc.out.mono HBA.out.size)).mono HBL.out.size))
  refine HL.done (by kernel_rfl) ?_
  clear hS
  simp only [List.drop_succ_cons, List.drop_zero]
  go_wp2_with fail
  obtain ⟨e0, e1, e2, e3, _⟩ := four_cells (box4_heap (v0 := .string (txN (fitA l))) (v1 := .string (txD (fitA l))) (v2 := .string (txN (fitB l))) (v3 := .string (txD (fitB l))) HL5.out)
  rw [HFB.out]
  refine bodyPost_ret (res_line (p := 2) (u := 3) rfl rfl e0 e1 e2 e3) rfl ⟨rfl, (((HBF.out.setCell (p := ⟨gl, 0, none⟩) hglo _).setCell (p := ⟨gl, 1, none⟩) hglo _).setCell (p := ⟨gl, 2, none⟩) hglo _).setCell (p := ⟨gl, 3, none⟩) hglo _⟩
  -- HTB
end Go.Proofs.YtocbogdjlapogaaGreatDoor
