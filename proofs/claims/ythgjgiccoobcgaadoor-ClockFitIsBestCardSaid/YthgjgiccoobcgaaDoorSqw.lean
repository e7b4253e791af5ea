/- The sum of the squares of the differences from a line, as the laws take it. -/
import Derived.Test.YthgjgiccoobcgaaDoorFitQ
import Derived.Test.YthgjgiccoobcgaaDoorYr
import Derived.Test.YthgjgiccoobcgaaDoorYs
import Derived.Deep.CutBlock
set_option linter.unusedSimpArgs false
set_option linter.unusedVariables false
namespace Go.Proofs.YthgjgiccoobcgaaDoor
open Go.RowKit Go.Dw Go.Joins
/-- a box with a number of the document -/
def RBox (w : World) (g : Nat) (q : Rat) : Prop := ∃ ng A n c D d e, w.heap[g]? = some (.cells #[.bool ng, .slice A n c, .slice D d e] 43 (0, 0)) ∧ NumR w w.heap.size ng A n c D d e q
theorem RBox.below {w w' : World} {g : Nat} {q : Rat} (h : RBox w g q) (hb : Below w.heap.size w w') : RBox w' g q := by
  obtain ⟨ng, A, n, c, D, d, e, h1, h2⟩ := h
  exact ⟨ng, A, n, c, D, d, e, (hb.block g (blk_lt h1)).trans h1, h2.to hb (Nat.le_refl _) hb.size⟩
theorem RBox.lt {w : World} {g : Nat} {q : Rat} (h : RBox w g q) : g < w.heap.size := by
  obtain ⟨_, _, _, _, _, _, _, h1, _⟩ := h
  exact blk_lt h1
theorem RBox.ty {w : World} {g : Nat} {q : Rat} (h : RBox w g q) : TyAt 43 w g := by
  obtain ⟨_, _, _, _, _, _, _, h1, _⟩ := h
  exact ⟨_, _, h1⟩
theorem RBox.store {w : World} {g n c d e : Nat} {q : Rat} {ng : Bool} {A D : Option Addr} {o0 o1 o2 : Value} (hg : w.heap[g]? = some (.cells #[o0, o1, o2] 43 (0, 0))) (h : NumR w w.heap.size ng A n c D d e q) :
    RBox (((w.setCell ⟨g, 0, none⟩ (.bool ng)).setCell ⟨g, 1, none⟩ (.slice A n c)).setCell ⟨g, 2, none⟩ (.slice D d e)) g q :=
  ⟨ng, A, n, c, D, d, e, box3_heap hg, h.box3 ⟨_, _, hg⟩ (by decide) _ _ _⟩
theorem RBox.far {w : World} {g p : Nat} {q : Rat} (h : RBox w g q) (ht : TyAt 43 w p) (hne : g ≠ p) (v0 v1 v2 : Value) :
    RBox (((w.setCell ⟨p, 0, none⟩ v0).setCell ⟨p, 1, none⟩ v1).setCell ⟨p, 2, none⟩ v2) g q := by
  obtain ⟨ng, A, n, c, D, d, e, h1, h2⟩ := h
  exact ⟨ng, A, n, c, D, d, e, box_far (box_far (box_far h1 hne 0 v0) hne 1 v1) hne 2 v2, h2.box3 ht (by decide) _ _ _⟩
set_option maxRecDepth 100000 in
set_option maxHeartbeats 16000000 in
theorem SQUARES_any (A : Option Addr) (n c : Nat) (l : List Pr) (HCK : Hid (chkP l = 0)) (ngU ngV : Bool) (AU AV DU DV : Option Addr) (nU cU dU eU nV cV dV eV : Nat) (u v : Rat) (hu : SmQ u 30) (hv : SmQ v 30) (w : World) (ht : Hid (TabAt w)) (B : Nat) (hB : B ≤ w.heap.size) (hh : Hid (PrsAt w B A n l)) (hhu : Hid (NumR w w.heap.size ngU AU nU cU DU dU eU u)) (hhv : Hid (NumR w w.heap.size ngV AV nV cV DV dV eV v)) :
    Calls Tryd.prog 18 #[.slice A n c, .agg #[.bool ngU, .slice AU nU cU, .slice DU dU eU], .agg #[.bool ngV, .slice AV nV cV, .slice DV dV eV]] w (OutR w (sqQ l u v l.length) 140 140) := by
  have hl := Lib.hid hh.out.1
  obtain ⟨hn2, hn5⟩ := chkP_ok HCK.out
  rw [hl.out] at hn2 hn5
  have HRG := Lib.hid (chkP_rng HCK.out).1
  have HSM := Lib.hid (fun k (hk : k ≤ l.length) => smQ_sq (chkP_rng HCK.out).1 (by rw [hl.out]; exact hn5) hu hv hk)
  obtain ⟨jU, jU'⟩ := numR_le hhu.out hu
  obtain ⟨jV, jV'⟩ := numR_le hhv.out hv
  have HSU := Lib.hid hu
  have HSV9 := Lib.hid hv
  have HSX := Lib.hid (fun (x y : Int) (h1 : -10000000000000 ≤ x) (h2 : x ≤ 10000000000000) (h3 : -10000000000000 ≤ y) (h4 : y ≤ 10000000000000) => smQ_add (smQ_int (z := y) (k := 5) (by omega) (by rw [show (10000 : Nat) ^ 5 = 100000000000000000000 from rfl]; omega)) (smQ_neg (smQ_add (smQ_mul hu (smQ_int (z := x) (k := 5) (by omega) (by rw [show (10000 : Nat) ^ 5 = 100000000000000000000 from rfl]; omega))) hv)))
  clear hu hv
  obtain ⟨W, g4, hW, hg4, HHW, HBW, HSW⟩ := boxes3 w (.cells #[.bool ngU, .slice AU nU cU, .slice DU dU eU] 43) (.cells #[.bool ngV, .slice AV nV cV, .slice DV dV eV] 43) (.cells #[.bool false, .slice none 0 0, .slice none 0 0] 43)
  obtain ⟨g5, hg5⟩ : ∃ g, g = g4 + 1 := ⟨_, rfl⟩
  obtain ⟨g6, hg6⟩ : ∃ g, g = g5 + 1 := ⟨_, rfl⟩
  rw [← hg5, ← hg6] at HHW
  have hsW : W.heap.size = w.heap.size + 3 := HSW.out
  have IU : Hid (RBox W g4 u) := ⟨_, _, _, _, _, _, _, HHW.out.1, hhu.out.to HBW.out (Nat.le_refl _) (by omega)⟩
  have IV : Hid (RBox W g5 v) := ⟨_, _, _, _, _, _, _, HHW.out.2.1, hhv.out.to HBW.out (Nat.le_refl _) (by omega)⟩
  have I6 := Lib.hid HHW.out.2.2
  have htW : Hid (TabAt W) := ht.out.below HBW.out
  have hhW : Hid (PrsAt W B A n l) := hh.out.below HBW.out hB
  go_enter Tryd.func18, Tryd.ntmps18
  go_upto_region 1 with (fail)
  rw [← hW, ← hg4, ← hg5, ← hg6]
  have G4 : w.heap.size ≤ g4 := by omega
  have G6 : w.heap.size ≤ g6 := by omega
  have D45 : g4 < g5 := by omega
  have D56 : g5 < g6 := by omega
  have hg6W : g6 < W.heap.size := by omega
  clear hW hg4 hg5 hg6 HHW HSW hhu hhv
  go_upto_region 2 with (go_at_call 16; refine (RINT_any 0 (by decide) (by decide) _ htW).mono ?_; rintro e w1 ⟨ng1, A1, n1, c1, D1, d1, e1, rfl, h1, k1, m1, hb1⟩)
  obtain ⟨W1, g7, hW1, hg7e, HG7, HBW1, HSW1⟩ := rcell_new w1 43 #[.bool ng1, .slice A1 n1 c1, .slice D1 d1 e1]
  have hb1s := hb1.size
  have HBn := Lib.hid (hb1.trans (HBW1.out.mono hb1s))
  have IS : Hid (RBox W1 g7 (sqQ l u v 0)) := ⟨_, _, _, _, _, _, _, HG7.out, h1.to HBW1.out (Nat.le_refl _) HBW1.out.size⟩
  replace IU := Lib.hid (IU.out.below HBn.out)
  replace IV := Lib.hid (IV.out.below HBn.out)
  replace I6 : Hid (W1.heap[g6]? = some (.cells #[.bool false, .slice none 0 0, .slice none 0 0] 43 (0, 0))) := (HBn.out.block g6 hg6W).trans I6.out
  have HBA := Lib.hid (HBW.out.trans (HBn.out.mono HBW.out.size))
  have hg7 : w.heap.size ≤ g7 := by omega
  have D67 : g6 < g7 := by omega
  rw [← hW1, ← hg7e]
  clear hW1 hg7e HG7 HBW1 HSW1 hb1 h1 HBn HBW
  go_upto_block 0 with (fail)
  go_cut [] (fun wx => Hid (RBox wx g7 (sqQ l u v n)) ∧ Hid (wx.heap[g6]? = some (.cells #[.bool false, .slice none 0 0, .slice none 0 0] 43 (0, 0))) ∧ Hid (Below w.heap.size w wx))
  case rest =>
    obtain ⟨I7, I6', HBE⟩ := hcut
    obtain ⟨ngE, AE, nE, cE, DE, dE, eE, bE, hE⟩ := I7.out
    have HE := Lib.hid hE
    obtain ⟨x0, x1, x2, _, _, _⟩ := r3_cells bE
    obtain ⟨z0, z1, z2, f0, f1, f2⟩ := r3_cells I6'.out
    have hsm := numR_le HE.out (HSM.out n (by rw [hl.out]; exact Nat.le_refl _))
    clear bE hE
    go_wp2_with fail
    rw [hl.out]
    exact end_rnum rfl rfl rfl z0 z1 z2 (outR_set HE.out.1 G6 ⟨_, _, I6'.out⟩ HE.out.2.1 HE.out.2.2 HBE.out hsm.1 hsm.2)
  case first =>
  go_wp2_with fail
  go_loopw [8] (fun i wr => ∃ k : Nat, k ≤ n ∧ i = .int .i64 k ∧ Hid (RBox wr g7 (sqQ l u v k)) ∧ Hid (RBox wr g4 u) ∧ Hid (RBox wr g5 v) ∧ Hid (wr.heap[g6]? = some (.cells #[.bool false, .slice none 0 0, .slice none 0 0] 43 (0, 0))) ∧ Hid (Below w.heap.size w wr)) (fun i _ => n - (intOf i).toNat)
  case atStart => exact ⟨0, Nat.zero_le _, rfl, IS, IU, IV, I6, HBA⟩
  case round =>
    clear IS IU IV I6 HBA
    obtain ⟨k, hk, rfl, IS, IU, IV, I6, HBA⟩ := hrel
    by_cases hlt : k < n
    · obtain ⟨bA, oA, rfl, hbA, k1, k2⟩ := (hh.out.below (HBA.out.mono hB) (Nat.le_refl _)).2 k hlt
      have hsw := HBA.out.size
      have hbAw : bA < wr.heap.size := by omega
      obtain ⟨⟨rg1, rg2⟩, rg3, rg4⟩ := HRG.out k (by rw [hl.out]; exact hlt)
      obtain ⟨p, hp⟩ : ∃ p, prOf l k = p := ⟨_, rfl⟩
      obtain ⟨x, y⟩ := p
      have HSQ : Hid (sqQ l u v (k + 1) = sqQ l u v k + (((y : Int) : Rat) + -(u * ((x : Int) : Rat) + v)) * (((y : Int) : Rat) + -(u * ((x : Int) : Rat) + v))) := by show sqQ l u v k + ((((prOf l k).2 : Int) : Rat) + -(u * (((prOf l k).1 : Int) : Rat) + v)) * ((((prOf l k).2 : Int) : Rat) + -(u * (((prOf l k).1 : Int) : Rat) + v)) = _; rw [hp]
      rw [hp] at k1 k2 rg1 rg2 rg3 rg4
      dsimp only at k1 k2 rg1 rg2 rg3 rg4
      have hk0 : (0 : Int) ≤ (k : Int) := by omega
      have hkn : (k : Int) < (n : Int) := by omega
      have hkk : k ≤ l.length := by rw [hl.out]; omega
      have HTB : Hid (TabAt wr) := ht.out.below HBA.out
      obtain ⟨W, rfl⟩ : ∃ x : World, x = wr := ⟨_, rfl⟩
      clear hp
      go_upto_region 5 with (fail)
      go_cut [9] from 11 to 39 (fun v9 wx => ∃ g9 : Nat, v9 = .pointer (some ⟨g9, 0, none⟩) ∧ Hid (RBox wx g9 (((y : Int) : Rat) + -(u * ((x : Int) : Rat) + v))) ∧ Hid (Below W.heap.size W wx))
      case first =>
        obtain ⟨ngU, AU, nU, cU, DU, dU, eU, bU, hU⟩ := IU.out
        obtain ⟨ngV, AV, nV, cV, DV, dV, eV, bV, hV⟩ := IV.out
        have HBU := Lib.hid bU
        have HBV := Lib.hid bV
        have HU := Lib.hid hU
        have HV := Lib.hid hV
        obtain ⟨jU, jU'⟩ := numR_le hU HSU.out
        obtain ⟨jV, jV'⟩ := numR_le hV HSV9.out
        obtain ⟨qU0, qU1, qU2, _, _, _⟩ := r3_cells bU
        obtain ⟨qV0, qV1, qV2, _, _, _⟩ := r3_cells bV
        clear bU bV hU hV IS IU IV I6
        refine wp_region_text 19 (fun x9 => x9.cell? ⟨g4, 0, none⟩ = some (.bool ngU) ∧ x9.cell? ⟨g4, 1, none⟩ = some (.slice AU nU cU) ∧ x9.cell? ⟨g4, 2, none⟩ = some (.slice DU dU eU) ∧ x9.cell? ⟨g5, 0, none⟩ = some (.bool ngV) ∧ x9.cell? ⟨g5, 1, none⟩ = some (.slice AV nV cV) ∧ x9.cell? ⟨g5, 2, none⟩ = some (.slice DV dV eV) ∧ x9.cell? ⟨bA, oA + k * 2, none⟩ = some (.int .i64 x) ∧ x9.cell? ⟨bA, oA + k * 2 + 1, none⟩ = some (.int .i64 y)) (by kernel_rfl) (by kernel_rfl) ?_
        obtain ⟨wc, hwc⟩ : ∃ x : World, x = W.drew := ⟨_, rfl⟩
        have hbn : Below W.heap.size W W.drew := (Below.refl _ _).drew
        have HU := Lib.hid (HU.out.to hbn (Nat.le_refl _) hbn.size)
        have HV := Lib.hid (HV.out.to hbn (Nat.le_refl _) hbn.size)
        have HTB := Lib.hid (HTB.out.below hbn)
        clear hbn
        have HBc : Hid (Below W.heap.size W wc) := by show Below _ _ _; rw [hwc]; exact (Below.refl _ _).drew
        have hS : wc.cell? ⟨g4, 0, none⟩ = some (.bool ngU) ∧ wc.cell? ⟨g4, 1, none⟩ = some (.slice AU nU cU) ∧ wc.cell? ⟨g4, 2, none⟩ = some (.slice DU dU eU) ∧ wc.cell? ⟨g5, 0, none⟩ = some (.bool ngV) ∧ wc.cell? ⟨g5, 1, none⟩ = some (.slice AV nV cV) ∧ wc.cell? ⟨g5, 2, none⟩ = some (.slice DV dV eV) ∧ wc.cell? ⟨bA, oA + k * 2, none⟩ = some (.int .i64 x) ∧ wc.cell? ⟨bA, oA + k * 2 + 1, none⟩ = some (.int .i64 y) := by rw [hwc]; exact ⟨qU0, qU1, qU2, qV0, qV1, qV2, k1, k2⟩
        have hg_0 : g4 < wc.heap.size := by rw [hwc]; exact blk_lt HBU.out
        have hg_1 : g5 < wc.heap.size := by rw [hwc]; exact blk_lt HBV.out
        have hg_2 : bA < wc.heap.size := by rw [hwc]; exact hbAw
        rw [← hwc] at HU HV HTB
        rw [← hwc]
        clear hwc
        refine HT.take (i := 0) (oi := _) (v := ?_) rfl (by kernel_rfl) (by kernel_rfl) (by decide) (fun _ _ _ h => h) (Or.inl ⟨by rfl, ?_⟩) hS ?_
        rotate_left
        · intro wz
          go_simp
          try with_reducible rfl
        simp only [List.getElem_toArray, List.getElem_cons_succ, List.getElem_cons_zero, Act.put, List.setIfInBounds_toArray, List.set_cons_zero, List.set_cons_succ]
        refine HT.take (i := 1) (oi := _) (v := ?_) rfl (by kernel_rfl) (by kernel_rfl) (by decide) (fun _ _ _ h => h) (Or.inl ⟨by rfl, ?_⟩) hS ?_
        rotate_left
        · intro wz
          go_simp
          try with_reducible rfl
        simp only [List.getElem_toArray, List.getElem_cons_succ, List.getElem_cons_zero, Act.put, List.setIfInBounds_toArray, List.set_cons_zero, List.set_cons_succ]
        refine HT.take (i := 2) (oi := _) (v := ?_) rfl (by kernel_rfl) (by kernel_rfl) (by decide) (fun _ _ _ h => h) (Or.inl ⟨by rfl, ?_⟩) hS ?_
        rotate_left
        · intro wz
          go_simp
          try with_reducible rfl
        simp only [List.getElem_toArray, List.getElem_cons_succ, List.getElem_cons_zero, Act.put, List.setIfInBounds_toArray, List.set_cons_zero, List.set_cons_succ]
        refine HT.take (i := 3) (oi := _) (v := ?_) rfl (by kernel_rfl) (by kernel_rfl) (by decide) (fun _ _ _ h => h) (Or.inl ⟨by rfl, ?_⟩) hS ?_
        rotate_left
        · intro wz
          go_simp
          try with_reducible rfl
        simp only [List.getElem_toArray, List.getElem_cons_succ, List.getElem_cons_zero, Act.put, List.setIfInBounds_toArray, List.set_cons_zero, List.set_cons_succ]
        refine HT.load (i := 4) (oi := _) (v := ?_) rfl (by kernel_rfl) (by kernel_rfl) (by decide) (fun _ _ _ h => h) (by kernel_rfl) (Or.inl ⟨by rfl, ?_⟩) hS ?_
        rotate_left
        · intro wz hwz
          try dsimp only at hwz
          go_simp
          try with_reducible rfl
        simp only [List.getElem_toArray, List.getElem_cons_succ, List.getElem_cons_zero, Act.put, List.setIfInBounds_toArray, List.set_cons_zero, List.set_cons_succ]
        refine HT.load (i := 6) (oi := _) (v := ?_) rfl (by kernel_rfl) (by kernel_rfl) (by decide) (fun _ _ _ h => h) (by kernel_rfl) (Or.inl ⟨by rfl, ?_⟩) hS ?_
        rotate_left
        · intro wz hwz
          try dsimp only at hwz
          go_simp
          try with_reducible rfl
        simp only [List.getElem_toArray, List.getElem_cons_succ, List.getElem_cons_zero, Act.put, List.setIfInBounds_toArray, List.set_cons_zero, List.set_cons_succ]
        refine HT.take (i := 7) (oi := _) (v := ?_) rfl (by kernel_rfl) (by kernel_rfl) (by decide) (fun _ _ _ h => h) (Or.inl ⟨by rfl, ?_⟩) hS ?_
        rotate_left
        · intro wz
          go_simp
          try with_reducible rfl
        simp only [List.getElem_toArray, List.getElem_cons_succ, List.getElem_cons_zero, Act.put, List.setIfInBounds_toArray, List.set_cons_zero, List.set_cons_succ]
        refine HT.take (i := 8) (oi := _) (v := ?_) rfl (by kernel_rfl) (by kernel_rfl) (by decide) (fun _ _ _ h => h) (Or.inl ⟨by rfl, ?_⟩) hS ?_
        rotate_left
        · intro wz
          go_simp
          try with_reducible rfl
        simp only [List.getElem_toArray, List.getElem_cons_succ, List.getElem_cons_zero, Act.put, List.setIfInBounds_toArray, List.set_cons_zero, List.set_cons_succ]
        refine HT.take (i := 9) (oi := _) (v := ?_) rfl (by kernel_rfl) (by kernel_rfl) (by decide) (fun _ _ _ h => h) (Or.inl ⟨by rfl, ?_⟩) hS ?_
        rotate_left
        · intro wz
          go_simp
          try with_reducible rfl
        simp only [List.getElem_toArray, List.getElem_cons_succ, List.getElem_cons_zero, Act.put, List.setIfInBounds_toArray, List.set_cons_zero, List.set_cons_succ]
        refine HT.take (i := 10) (oi := _) (v := ?_) rfl (by kernel_rfl) (by kernel_rfl) (by decide) (fun _ _ _ h => h) (Or.inl ⟨by rfl, ?_⟩) hS ?_
        rotate_left
        · intro wz
          go_simp
          try with_reducible rfl
        simp only [List.getElem_toArray, List.getElem_cons_succ, List.getElem_cons_zero, Act.put, List.setIfInBounds_toArray, List.set_cons_zero, List.set_cons_succ]
        refine HT.load (i := 11) (oi := _) (v := ?_) rfl (by kernel_rfl) (by kernel_rfl) (by decide) (fun _ _ _ h => h) (by kernel_rfl) (Or.inl ⟨by rfl, ?_⟩) hS ?_
        rotate_left
        · intro wz hwz
          try dsimp only at hwz
          go_simp
          try with_reducible rfl
        simp only [List.getElem_toArray, List.getElem_cons_succ, List.getElem_cons_zero, Act.put, List.setIfInBounds_toArray, List.set_cons_zero, List.set_cons_succ]
        refine HT.load (i := 14) (oi := _) (v := ?_) rfl (by kernel_rfl) (by kernel_rfl) (by decide) (fun _ _ _ h => h) (by kernel_rfl) (Or.inl ⟨by rfl, ?_⟩) hS ?_
        rotate_left
        · intro wz hwz
          try dsimp only at hwz
          go_simp
          try with_reducible rfl
        simp only [List.getElem_toArray, List.getElem_cons_succ, List.getElem_cons_zero, Act.put, List.setIfInBounds_toArray, List.set_cons_zero, List.set_cons_succ]
        refine HT.two 5 18 (o := _) (o' := _) rfl rfl (by kernel_rfl) (by decide) (by decide) (by rfl) (by rfl) ?_ ?_
        · intro K hK
          go_simp
          refine (RINT_any y (by omega) (by omega) _ HTB).mono ?_
          rintro e wn ⟨ng1, A1, n1, c1, D1, d1, e1, rfl, hH1, k1, m1, hbn⟩
          have H1 := Lib.hid hH1
          clear hH1
          replace HU := Lib.hid (HU.out.to hbn (Nat.le_refl _) hbn.size)
          replace HV := Lib.hid (HV.out.to hbn (Nat.le_refl _) hbn.size)
          replace HTB := Lib.hid (HTB.out.below hbn)
          have HBn := Lib.hid (HBc.out.trans (hbn.mono HBc.out.size))
          have hSn : wn.cell? ⟨g4, 0, none⟩ = some (.bool ngU) ∧ wn.cell? ⟨g4, 1, none⟩ = some (.slice AU nU cU) ∧ wn.cell? ⟨g4, 2, none⟩ = some (.slice DU dU eU) ∧ wn.cell? ⟨g5, 0, none⟩ = some (.bool ngV) ∧ wn.cell? ⟨g5, 1, none⟩ = some (.slice AV nV cV) ∧ wn.cell? ⟨g5, 2, none⟩ = some (.slice DV dV eV) ∧ wn.cell? ⟨bA, oA + k * 2, none⟩ = some (.int .i64 x) ∧ wn.cell? ⟨bA, oA + k * 2 + 1, none⟩ = some (.int .i64 y) := ⟨(hbn.cell (p := ⟨g4, 0, none⟩) hg_0).trans hS.1, (hbn.cell (p := ⟨g4, 1, none⟩) hg_0).trans hS.2.1, (hbn.cell (p := ⟨g4, 2, none⟩) hg_0).trans hS.2.2.1, (hbn.cell (p := ⟨g5, 0, none⟩) hg_1).trans hS.2.2.2.1, (hbn.cell (p := ⟨g5, 1, none⟩) hg_1).trans hS.2.2.2.2.1, (hbn.cell (p := ⟨g5, 2, none⟩) hg_1).trans hS.2.2.2.2.2.1, (hbn.cell (p := ⟨bA, oA + k * 2, none⟩) hg_2).trans hS.2.2.2.2.2.2.1, (hbn.cell (p := ⟨bA, oA + k * 2 + 1, none⟩) hg_2).trans hS.2.2.2.2.2.2.2⟩
          have hgn_0 := Nat.lt_of_lt_of_le hg_0 hbn.size
          have hgn_1 := Nat.lt_of_lt_of_le hg_1 hbn.size
          have hgn_2 := Nat.lt_of_lt_of_le hg_2 hbn.size
          refine hK.out _ _ hSn ?_
          clear hK K hS HBc hg_0 hg_1 hg_2
          try simp only [List.getElem_toArray, List.getElem_cons_succ, List.getElem_cons_zero, Act.put, List.setIfInBounds_toArray, List.set_cons_zero, List.set_cons_succ]
          have hS := hSn
          have HBc := HBn
          have hg_0 := hgn_0
          have hg_1 := hgn_1
          have hg_2 := hgn_2
          clear hSn HBn hbn hgn_0 hgn_1 hgn_2
          obtain ⟨wc, rfl⟩ : ∃ x : World, x = wn := ⟨_, rfl⟩
          refine HT.two 12 18 (o := _) (o' := _) rfl rfl (by kernel_rfl) (by decide) (by decide) (by rfl) (by rfl) ?_ ?_
          · intro K hK
            go_simp
            refine (RINT_any x (by omega) (by omega) _ HTB).mono ?_
            rintro e wn ⟨ng2, A2, n2, c2, D2, d2, e2, rfl, hH2, k2, m2, hbn⟩
            have H2 := Lib.hid hH2
            clear hH2
            clear HTB
            replace HU := Lib.hid (HU.out.to hbn (Nat.le_refl _) hbn.size)
            replace HV := Lib.hid (HV.out.to hbn (Nat.le_refl _) hbn.size)
            replace H1 := Lib.hid (H1.out.to hbn (Nat.le_refl _) hbn.size)
            have HBn := Lib.hid (HBc.out.trans (hbn.mono HBc.out.size))
            have hSn : wn.cell? ⟨g4, 0, none⟩ = some (.bool ngU) ∧ wn.cell? ⟨g4, 1, none⟩ = some (.slice AU nU cU) ∧ wn.cell? ⟨g4, 2, none⟩ = some (.slice DU dU eU) ∧ wn.cell? ⟨g5, 0, none⟩ = some (.bool ngV) ∧ wn.cell? ⟨g5, 1, none⟩ = some (.slice AV nV cV) ∧ wn.cell? ⟨g5, 2, none⟩ = some (.slice DV dV eV) ∧ wn.cell? ⟨bA, oA + k * 2, none⟩ = some (.int .i64 x) ∧ wn.cell? ⟨bA, oA + k * 2 + 1, none⟩ = some (.int .i64 y) := ⟨(hbn.cell (p := ⟨g4, 0, none⟩) hg_0).trans hS.1, (hbn.cell (p := ⟨g4, 1, none⟩) hg_0).trans hS.2.1, (hbn.cell (p := ⟨g4, 2, none⟩) hg_0).trans hS.2.2.1, (hbn.cell (p := ⟨g5, 0, none⟩) hg_1).trans hS.2.2.2.1, (hbn.cell (p := ⟨g5, 1, none⟩) hg_1).trans hS.2.2.2.2.1, (hbn.cell (p := ⟨g5, 2, none⟩) hg_1).trans hS.2.2.2.2.2.1, (hbn.cell (p := ⟨bA, oA + k * 2, none⟩) hg_2).trans hS.2.2.2.2.2.2.1, (hbn.cell (p := ⟨bA, oA + k * 2 + 1, none⟩) hg_2).trans hS.2.2.2.2.2.2.2⟩
            have hgn_0 := Nat.lt_of_lt_of_le hg_0 hbn.size
            have hgn_1 := Nat.lt_of_lt_of_le hg_1 hbn.size
            have hgn_2 := Nat.lt_of_lt_of_le hg_2 hbn.size
            refine hK.out _ _ hSn ?_
            clear hK K hS HBc hg_0 hg_1 hg_2
            try simp only [List.getElem_toArray, List.getElem_cons_succ, List.getElem_cons_zero, Act.put, List.setIfInBounds_toArray, List.set_cons_zero, List.set_cons_succ]
            have hS := hSn
            have HBc := HBn
            have hg_0 := hgn_0
            have hg_1 := hgn_1
            have hg_2 := hgn_2
            clear hSn HBn hbn hgn_0 hgn_1 hgn_2
            obtain ⟨wc, rfl⟩ : ∃ x : World, x = wn := ⟨_, rfl⟩
            refine HT.two 13 18 (o := _) (o' := _) rfl rfl (by kernel_rfl) (by decide) (by decide) (by rfl) (by rfl) ?_ ?_
            · intro K hK
              go_simp
              refine (RNTIMES_any ngU ng2 AU A2 DU D2 nU cU dU eU n2 c2 d2 e2 _ _ (by omega) (by omega) (by omega) (by omega) _ wc.heap.size (Nat.le_refl _) HU H2).mono ?_
              rintro e wn ⟨ng3, A3, n3, c3, D3, d3, e3, rfl, hH3, k3, m3, hbn⟩
              have H3 := Lib.hid hH3
              clear hH3
              clear HU H2
              replace HV := Lib.hid (HV.out.to hbn (Nat.le_refl _) hbn.size)
              replace H1 := Lib.hid (H1.out.to hbn (Nat.le_refl _) hbn.size)
              have HBn := Lib.hid (HBc.out.trans (hbn.mono HBc.out.size))
              have hSn : wn.cell? ⟨g4, 0, none⟩ = some (.bool ngU) ∧ wn.cell? ⟨g4, 1, none⟩ = some (.slice AU nU cU) ∧ wn.cell? ⟨g4, 2, none⟩ = some (.slice DU dU eU) ∧ wn.cell? ⟨g5, 0, none⟩ = some (.bool ngV) ∧ wn.cell? ⟨g5, 1, none⟩ = some (.slice AV nV cV) ∧ wn.cell? ⟨g5, 2, none⟩ = some (.slice DV dV eV) ∧ wn.cell? ⟨bA, oA + k * 2, none⟩ = some (.int .i64 x) ∧ wn.cell? ⟨bA, oA + k * 2 + 1, none⟩ = some (.int .i64 y) := ⟨(hbn.cell (p := ⟨g4, 0, none⟩) hg_0).trans hS.1, (hbn.cell (p := ⟨g4, 1, none⟩) hg_0).trans hS.2.1, (hbn.cell (p := ⟨g4, 2, none⟩) hg_0).trans hS.2.2.1, (hbn.cell (p := ⟨g5, 0, none⟩) hg_1).trans hS.2.2.2.1, (hbn.cell (p := ⟨g5, 1, none⟩) hg_1).trans hS.2.2.2.2.1, (hbn.cell (p := ⟨g5, 2, none⟩) hg_1).trans hS.2.2.2.2.2.1, (hbn.cell (p := ⟨bA, oA + k * 2, none⟩) hg_2).trans hS.2.2.2.2.2.2.1, (hbn.cell (p := ⟨bA, oA + k * 2 + 1, none⟩) hg_2).trans hS.2.2.2.2.2.2.2⟩
              have hgn_0 := Nat.lt_of_lt_of_le hg_0 hbn.size
              have hgn_1 := Nat.lt_of_lt_of_le hg_1 hbn.size
              have hgn_2 := Nat.lt_of_lt_of_le hg_2 hbn.size
              refine hK.out _ _ hSn ?_
              clear hK K hS HBc hg_0 hg_1 hg_2
              try simp only [List.getElem_toArray, List.getElem_cons_succ, List.getElem_cons_zero, Act.put, List.setIfInBounds_toArray, List.set_cons_zero, List.set_cons_succ]
              have hS := hSn
              have HBc := HBn
              have hg_0 := hgn_0
              have hg_1 := hgn_1
              have hg_2 := hgn_2
              clear hSn HBn hbn hgn_0 hgn_1 hgn_2
              obtain ⟨wc, rfl⟩ : ∃ x : World, x = wn := ⟨_, rfl⟩
              refine HT.two 15 18 (o := _) (o' := _) rfl rfl (by kernel_rfl) (by decide) (by decide) (by rfl) (by rfl) ?_ ?_
              · intro K hK
                go_simp
                refine (RPLUS_any ng3 ngV A3 AV D3 DV n3 c3 d3 e3 nV cV dV eV _ _ (by omega) (by omega) (by omega) (by omega) _ wc.heap.size (Nat.le_refl _) H3 HV).mono ?_
                rintro e wn ⟨ng4, A4, n4, c4, D4, d4, e4, rfl, hH4, k4, m4, hbn⟩
                have H4 := Lib.hid hH4
                clear hH4
                clear HV H3
                replace H1 := Lib.hid (H1.out.to hbn (Nat.le_refl _) hbn.size)
                have HBn := Lib.hid (HBc.out.trans (hbn.mono HBc.out.size))
                have hSn : wn.cell? ⟨g4, 0, none⟩ = some (.bool ngU) ∧ wn.cell? ⟨g4, 1, none⟩ = some (.slice AU nU cU) ∧ wn.cell? ⟨g4, 2, none⟩ = some (.slice DU dU eU) ∧ wn.cell? ⟨g5, 0, none⟩ = some (.bool ngV) ∧ wn.cell? ⟨g5, 1, none⟩ = some (.slice AV nV cV) ∧ wn.cell? ⟨g5, 2, none⟩ = some (.slice DV dV eV) ∧ wn.cell? ⟨bA, oA + k * 2, none⟩ = some (.int .i64 x) ∧ wn.cell? ⟨bA, oA + k * 2 + 1, none⟩ = some (.int .i64 y) := ⟨(hbn.cell (p := ⟨g4, 0, none⟩) hg_0).trans hS.1, (hbn.cell (p := ⟨g4, 1, none⟩) hg_0).trans hS.2.1, (hbn.cell (p := ⟨g4, 2, none⟩) hg_0).trans hS.2.2.1, (hbn.cell (p := ⟨g5, 0, none⟩) hg_1).trans hS.2.2.2.1, (hbn.cell (p := ⟨g5, 1, none⟩) hg_1).trans hS.2.2.2.2.1, (hbn.cell (p := ⟨g5, 2, none⟩) hg_1).trans hS.2.2.2.2.2.1, (hbn.cell (p := ⟨bA, oA + k * 2, none⟩) hg_2).trans hS.2.2.2.2.2.2.1, (hbn.cell (p := ⟨bA, oA + k * 2 + 1, none⟩) hg_2).trans hS.2.2.2.2.2.2.2⟩
                have hgn_0 := Nat.lt_of_lt_of_le hg_0 hbn.size
                have hgn_1 := Nat.lt_of_lt_of_le hg_1 hbn.size
                have hgn_2 := Nat.lt_of_lt_of_le hg_2 hbn.size
                refine hK.out _ _ hSn ?_
                clear hK K hS HBc hg_0 hg_1 hg_2
                try simp only [List.getElem_toArray, List.getElem_cons_succ, List.getElem_cons_zero, Act.put, List.setIfInBounds_toArray, List.set_cons_zero, List.set_cons_succ]
                have hS := hSn
                have HBc := HBn
                have hg_0 := hgn_0
                have hg_1 := hgn_1
                have hg_2 := hgn_2
                clear hSn HBn hbn hgn_0 hgn_1 hgn_2
                obtain ⟨wc, rfl⟩ : ∃ x : World, x = wn := ⟨_, rfl⟩
                refine HT.two 16 18 (o := _) (o' := _) rfl rfl (by kernel_rfl) (by decide) (by decide) (by rfl) (by rfl) ?_ ?_
                · intro K hK
                  go_simp
                  refine (RMINUS_any ng4 A4 D4 n4 c4 d4 e4 _ _ wc.heap.size (Nat.le_refl _) H4).mono ?_
                  rintro e wn ⟨ng5, A5, n5, c5, D5, d5, e5, rfl, hH5, k5, m5, hbn⟩
                  have H5 := Lib.hid hH5
                  clear hH5
                  clear H4
                  replace H1 := Lib.hid (H1.out.to hbn (Nat.le_refl _) hbn.size)
                  have HBn := Lib.hid (HBc.out.trans (hbn.mono HBc.out.size))
                  have hSn : wn.cell? ⟨g4, 0, none⟩ = some (.bool ngU) ∧ wn.cell? ⟨g4, 1, none⟩ = some (.slice AU nU cU) ∧ wn.cell? ⟨g4, 2, none⟩ = some (.slice DU dU eU) ∧ wn.cell? ⟨g5, 0, none⟩ = some (.bool ngV) ∧ wn.cell? ⟨g5, 1, none⟩ = some (.slice AV nV cV) ∧ wn.cell? ⟨g5, 2, none⟩ = some (.slice DV dV eV) ∧ wn.cell? ⟨bA, oA + k * 2, none⟩ = some (.int .i64 x) ∧ wn.cell? ⟨bA, oA + k * 2 + 1, none⟩ = some (.int .i64 y) := ⟨(hbn.cell (p := ⟨g4, 0, none⟩) hg_0).trans hS.1, (hbn.cell (p := ⟨g4, 1, none⟩) hg_0).trans hS.2.1, (hbn.cell (p := ⟨g4, 2, none⟩) hg_0).trans hS.2.2.1, (hbn.cell (p := ⟨g5, 0, none⟩) hg_1).trans hS.2.2.2.1, (hbn.cell (p := ⟨g5, 1, none⟩) hg_1).trans hS.2.2.2.2.1, (hbn.cell (p := ⟨g5, 2, none⟩) hg_1).trans hS.2.2.2.2.2.1, (hbn.cell (p := ⟨bA, oA + k * 2, none⟩) hg_2).trans hS.2.2.2.2.2.2.1, (hbn.cell (p := ⟨bA, oA + k * 2 + 1, none⟩) hg_2).trans hS.2.2.2.2.2.2.2⟩
                  have hgn_0 := Nat.lt_of_lt_of_le hg_0 hbn.size
                  have hgn_1 := Nat.lt_of_lt_of_le hg_1 hbn.size
                  have hgn_2 := Nat.lt_of_lt_of_le hg_2 hbn.size
                  refine hK.out _ _ hSn ?_
                  clear hK K hS HBc hg_0 hg_1 hg_2
                  try simp only [List.getElem_toArray, List.getElem_cons_succ, List.getElem_cons_zero, Act.put, List.setIfInBounds_toArray, List.set_cons_zero, List.set_cons_succ]
                  have hS := hSn
                  have HBc := HBn
                  have hg_0 := hgn_0
                  have hg_1 := hgn_1
                  have hg_2 := hgn_2
                  clear hSn HBn hbn hgn_0 hgn_1 hgn_2
                  obtain ⟨wc, rfl⟩ : ∃ x : World, x = wn := ⟨_, rfl⟩
                  refine HT.two 17 18 (o := _) (o' := _) rfl rfl (by kernel_rfl) (by decide) (by decide) (by rfl) (by rfl) ?_ ?_
                  · intro K hK
                    go_simp
                    refine (RPLUS_any ng1 ng5 A1 A5 D1 D5 n1 c1 d1 e1 n5 c5 d5 e5 _ _ (by omega) (by omega) (by omega) (by omega) _ wc.heap.size (Nat.le_refl _) H1 H5).mono ?_
                    rintro e wn ⟨ng6, A6, n6, c6, D6, d6, e6, rfl, hH6, k6, m6, hbn⟩
                    have H6 := Lib.hid hH6
                    clear hH6
                    clear H1 H5
                    have HBn := Lib.hid (HBc.out.trans (hbn.mono HBc.out.size))
                    have hSn : wn.cell? ⟨g4, 0, none⟩ = some (.bool ngU) ∧ wn.cell? ⟨g4, 1, none⟩ = some (.slice AU nU cU) ∧ wn.cell? ⟨g4, 2, none⟩ = some (.slice DU dU eU) ∧ wn.cell? ⟨g5, 0, none⟩ = some (.bool ngV) ∧ wn.cell? ⟨g5, 1, none⟩ = some (.slice AV nV cV) ∧ wn.cell? ⟨g5, 2, none⟩ = some (.slice DV dV eV) ∧ wn.cell? ⟨bA, oA + k * 2, none⟩ = some (.int .i64 x) ∧ wn.cell? ⟨bA, oA + k * 2 + 1, none⟩ = some (.int .i64 y) := ⟨(hbn.cell (p := ⟨g4, 0, none⟩) hg_0).trans hS.1, (hbn.cell (p := ⟨g4, 1, none⟩) hg_0).trans hS.2.1, (hbn.cell (p := ⟨g4, 2, none⟩) hg_0).trans hS.2.2.1, (hbn.cell (p := ⟨g5, 0, none⟩) hg_1).trans hS.2.2.2.1, (hbn.cell (p := ⟨g5, 1, none⟩) hg_1).trans hS.2.2.2.2.1, (hbn.cell (p := ⟨g5, 2, none⟩) hg_1).trans hS.2.2.2.2.2.1, (hbn.cell (p := ⟨bA, oA + k * 2, none⟩) hg_2).trans hS.2.2.2.2.2.2.1, (hbn.cell (p := ⟨bA, oA + k * 2 + 1, none⟩) hg_2).trans hS.2.2.2.2.2.2.2⟩
                    have hgn_0 := Nat.lt_of_lt_of_le hg_0 hbn.size
                    have hgn_1 := Nat.lt_of_lt_of_le hg_1 hbn.size
                    have hgn_2 := Nat.lt_of_lt_of_le hg_2 hbn.size
                    refine hK.out _ _ hSn ?_
                    clear hK K hS HBc hg_0 hg_1 hg_2
                    try simp only [List.getElem_toArray, List.getElem_cons_succ, List.getElem_cons_zero, Act.put, List.setIfInBounds_toArray, List.set_cons_zero, List.set_cons_succ]
                    have hS := hSn
                    have HBc := HBn
                    have hg_0 := hgn_0
                    have hg_1 := hgn_1
                    have hg_2 := hgn_2
                    clear hSn HBn hbn hgn_0 hgn_1 hgn_2
                    obtain ⟨wc, rfl⟩ : ∃ x : World, x = wn := ⟨_, rfl⟩
                    refine HT.one (i := 18) (o := _) rfl (by kernel_rfl) (by decide) (by rfl) ?_
                    intro K hK
                    go_simp
                    obtain ⟨wn, g9, hwn, hga9, hHA, hbn0, _⟩ := cell_new0 wc 43 #[.bool false, .slice none 0 0, .slice none 0 0]
                    have hbn := hbn0.out
                    have HGg9 : Hid (W.heap.size ≤ g9) := by show _ ≤ _; rw [hga9]; exact HBc.out.size
                    rw [← hwn, ← hga9]
                    have HA := hHA
                    clear hwn hga9 hbn0 hHA
                    replace H6 := Lib.hid (H6.out.to hbn (Nat.le_refl _) hbn.size)
                    have HBn := Lib.hid (HBc.out.trans (hbn.mono HBc.out.size))
                    have hSn : wn.cell? ⟨g4, 0, none⟩ = some (.bool ngU) ∧ wn.cell? ⟨g4, 1, none⟩ = some (.slice AU nU cU) ∧ wn.cell? ⟨g4, 2, none⟩ = some (.slice DU dU eU) ∧ wn.cell? ⟨g5, 0, none⟩ = some (.bool ngV) ∧ wn.cell? ⟨g5, 1, none⟩ = some (.slice AV nV cV) ∧ wn.cell? ⟨g5, 2, none⟩ = some (.slice DV dV eV) ∧ wn.cell? ⟨bA, oA + k * 2, none⟩ = some (.int .i64 x) ∧ wn.cell? ⟨bA, oA + k * 2 + 1, none⟩ = some (.int .i64 y) := ⟨(hbn.cell (p := ⟨g4, 0, none⟩) hg_0).trans hS.1, (hbn.cell (p := ⟨g4, 1, none⟩) hg_0).trans hS.2.1, (hbn.cell (p := ⟨g4, 2, none⟩) hg_0).trans hS.2.2.1, (hbn.cell (p := ⟨g5, 0, none⟩) hg_1).trans hS.2.2.2.1, (hbn.cell (p := ⟨g5, 1, none⟩) hg_1).trans hS.2.2.2.2.1, (hbn.cell (p := ⟨g5, 2, none⟩) hg_1).trans hS.2.2.2.2.2.1, (hbn.cell (p := ⟨bA, oA + k * 2, none⟩) hg_2).trans hS.2.2.2.2.2.2.1, (hbn.cell (p := ⟨bA, oA + k * 2 + 1, none⟩) hg_2).trans hS.2.2.2.2.2.2.2⟩
                    have hgn_0 := Nat.lt_of_lt_of_le hg_0 hbn.size
                    have hgn_1 := Nat.lt_of_lt_of_le hg_1 hbn.size
                    have hgn_2 := Nat.lt_of_lt_of_le hg_2 hbn.size
                    refine hK.out _ _ hSn ?_
                    clear hK K hS HBc hg_0 hg_1 hg_2
                    try simp only [List.getElem_toArray, List.getElem_cons_succ, List.getElem_cons_zero, Act.put, List.setIfInBounds_toArray, List.set_cons_zero, List.set_cons_succ]
                    have hS := hSn
                    have HBc := HBn
                    have hg_0 := hgn_0
                    have hg_1 := hgn_1
                    have hg_2 := hgn_2
                    clear hSn HBn hbn hgn_0 hgn_1 hgn_2
                    obtain ⟨wc, rfl⟩ : ∃ x : World, x = wn := ⟨_, rfl⟩
                    obtain ⟨r0, r1, r2, f0, f1, f2⟩ := r3_cells HA.out
                    refine HT.done (by kernel_rfl) ?_
                    clear hS
                    simp only [List.drop_succ_cons, List.drop_zero]
                    have HQB := Lib.hid (RBox.store HA.out H6.out)
                    have HBS := Lib.hid (box3_below (v0 := .bool ng6) (v1 := .slice A6 n6 c6) (v2 := .slice D6 d6 e6) HBc.out HGg9.out)
                    go_wp2_with fail
                    go_meet
                    exact ⟨g9, rfl, HQB, HBS⟩
                    -- H6 HA
                  · intro K hK
                    go_simp
                    obtain ⟨wn, g9, hwn, hga9, hHA, hbn0, _⟩ := cell_new0 wc 43 #[.bool false, .slice none 0 0, .slice none 0 0]
                    have hbn := hbn0.out
                    have HGg9 : Hid (W.heap.size ≤ g9) := by show _ ≤ _; rw [hga9]; exact HBc.out.size
                    rw [← hwn, ← hga9]
                    have HA := hHA
                    clear hwn hga9 hbn0 hHA
                    replace H1 := Lib.hid (H1.out.to hbn (Nat.le_refl _) hbn.size)
                    replace H5 := Lib.hid (H5.out.to hbn (Nat.le_refl _) hbn.size)
                    have HBn := Lib.hid (HBc.out.trans (hbn.mono HBc.out.size))
                    have hSn : wn.cell? ⟨g4, 0, none⟩ = some (.bool ngU) ∧ wn.cell? ⟨g4, 1, none⟩ = some (.slice AU nU cU) ∧ wn.cell? ⟨g4, 2, none⟩ = some (.slice DU dU eU) ∧ wn.cell? ⟨g5, 0, none⟩ = some (.bool ngV) ∧ wn.cell? ⟨g5, 1, none⟩ = some (.slice AV nV cV) ∧ wn.cell? ⟨g5, 2, none⟩ = some (.slice DV dV eV) ∧ wn.cell? ⟨bA, oA + k * 2, none⟩ = some (.int .i64 x) ∧ wn.cell? ⟨bA, oA + k * 2 + 1, none⟩ = some (.int .i64 y) := ⟨(hbn.cell (p := ⟨g4, 0, none⟩) hg_0).trans hS.1, (hbn.cell (p := ⟨g4, 1, none⟩) hg_0).trans hS.2.1, (hbn.cell (p := ⟨g4, 2, none⟩) hg_0).trans hS.2.2.1, (hbn.cell (p := ⟨g5, 0, none⟩) hg_1).trans hS.2.2.2.1, (hbn.cell (p := ⟨g5, 1, none⟩) hg_1).trans hS.2.2.2.2.1, (hbn.cell (p := ⟨g5, 2, none⟩) hg_1).trans hS.2.2.2.2.2.1, (hbn.cell (p := ⟨bA, oA + k * 2, none⟩) hg_2).trans hS.2.2.2.2.2.2.1, (hbn.cell (p := ⟨bA, oA + k * 2 + 1, none⟩) hg_2).trans hS.2.2.2.2.2.2.2⟩
                    have hgn_0 := Nat.lt_of_lt_of_le hg_0 hbn.size
                    have hgn_1 := Nat.lt_of_lt_of_le hg_1 hbn.size
                    have hgn_2 := Nat.lt_of_lt_of_le hg_2 hbn.size
                    refine hK.out _ _ hSn ?_
                    clear hK K hS HBc hg_0 hg_1 hg_2
                    try simp only [List.getElem_toArray, List.getElem_cons_succ, List.getElem_cons_zero, Act.put, List.setIfInBounds_toArray, List.set_cons_zero, List.set_cons_succ]
                    have hS := hSn
                    have HBc := HBn
                    have hg_0 := hgn_0
                    have hg_1 := hgn_1
                    have hg_2 := hgn_2
                    clear hSn HBn hbn hgn_0 hgn_1 hgn_2
                    obtain ⟨wc, rfl⟩ : ∃ x : World, x = wn := ⟨_, rfl⟩
                    refine HT.one (i := 17) (o := _) rfl (by kernel_rfl) (by decide) (by rfl) ?_
                    intro K hK
                    go_simp
                    refine (RPLUS_any ng1 ng5 A1 A5 D1 D5 n1 c1 d1 e1 n5 c5 d5 e5 _ _ (by omega) (by omega) (by omega) (by omega) _ wc.heap.size (Nat.le_refl _) H1 H5).mono ?_
                    rintro e wn ⟨ng6, A6, n6, c6, D6, d6, e6, rfl, hH6, k6, m6, hbn⟩
                    have H6 := Lib.hid hH6
                    clear hH6
                    clear H1 H5
                    replace HA := Lib.hid ((hbn.block g9 (blk_lt HA.out)).trans HA.out)
                    have HBn := Lib.hid (HBc.out.trans (hbn.mono HBc.out.size))
                    have hSn : wn.cell? ⟨g4, 0, none⟩ = some (.bool ngU) ∧ wn.cell? ⟨g4, 1, none⟩ = some (.slice AU nU cU) ∧ wn.cell? ⟨g4, 2, none⟩ = some (.slice DU dU eU) ∧ wn.cell? ⟨g5, 0, none⟩ = some (.bool ngV) ∧ wn.cell? ⟨g5, 1, none⟩ = some (.slice AV nV cV) ∧ wn.cell? ⟨g5, 2, none⟩ = some (.slice DV dV eV) ∧ wn.cell? ⟨bA, oA + k * 2, none⟩ = some (.int .i64 x) ∧ wn.cell? ⟨bA, oA + k * 2 + 1, none⟩ = some (.int .i64 y) := ⟨(hbn.cell (p := ⟨g4, 0, none⟩) hg_0).trans hS.1, (hbn.cell (p := ⟨g4, 1, none⟩) hg_0).trans hS.2.1, (hbn.cell (p := ⟨g4, 2, none⟩) hg_0).trans hS.2.2.1, (hbn.cell (p := ⟨g5, 0, none⟩) hg_1).trans hS.2.2.2.1, (hbn.cell (p := ⟨g5, 1, none⟩) hg_1).trans hS.2.2.2.2.1, (hbn.cell (p := ⟨g5, 2, none⟩) hg_1).trans hS.2.2.2.2.2.1, (hbn.cell (p := ⟨bA, oA + k * 2, none⟩) hg_2).trans hS.2.2.2.2.2.2.1, (hbn.cell (p := ⟨bA, oA + k * 2 + 1, none⟩) hg_2).trans hS.2.2.2.2.2.2.2⟩
                    have hgn_0 := Nat.lt_of_lt_of_le hg_0 hbn.size
                    have hgn_1 := Nat.lt_of_lt_of_le hg_1 hbn.size
                    have hgn_2 := Nat.lt_of_lt_of_le hg_2 hbn.size
                    refine hK.out _ _ hSn ?_
                    clear hK K hS HBc hg_0 hg_1 hg_2
                    try simp only [List.getElem_toArray, List.getElem_cons_succ, List.getElem_cons_zero, Act.put, List.setIfInBounds_toArray, List.set_cons_zero, List.set_cons_succ]
                    have hS := hSn
                    have HBc := HBn
                    have hg_0 := hgn_0
                    have hg_1 := hgn_1
                    have hg_2 := hgn_2
                    clear hSn HBn hbn hgn_0 hgn_1 hgn_2
                    obtain ⟨wc, rfl⟩ : ∃ x : World, x = wn := ⟨_, rfl⟩
                    obtain ⟨r0, r1, r2, f0, f1, f2⟩ := r3_cells HA.out
                    refine HT.done (by kernel_rfl) ?_
                    clear hS
                    simp only [List.drop_succ_cons, List.drop_zero]
                    have HQB := Lib.hid (RBox.store HA.out H6.out)
                    have HBS := Lib.hid (box3_below (v0 := .bool ng6) (v1 := .slice A6 n6 c6) (v2 := .slice D6 d6 e6) HBc.out HGg9.out)
                    go_wp2_with fail
                    go_meet
                    exact ⟨g9, rfl, HQB, HBS⟩
                    -- H6 HA
                · intro K hK
                  go_simp
                  obtain ⟨wn, g9, hwn, hga9, hHA, hbn0, _⟩ := cell_new0 wc 43 #[.bool false, .slice none 0 0, .slice none 0 0]
                  have hbn := hbn0.out
                  have HGg9 : Hid (W.heap.size ≤ g9) := by show _ ≤ _; rw [hga9]; exact HBc.out.size
                  rw [← hwn, ← hga9]
                  have HA := hHA
                  clear hwn hga9 hbn0 hHA
                  replace H1 := Lib.hid (H1.out.to hbn (Nat.le_refl _) hbn.size)
                  replace H4 := Lib.hid (H4.out.to hbn (Nat.le_refl _) hbn.size)
                  have HBn := Lib.hid (HBc.out.trans (hbn.mono HBc.out.size))
                  have hSn : wn.cell? ⟨g4, 0, none⟩ = some (.bool ngU) ∧ wn.cell? ⟨g4, 1, none⟩ = some (.slice AU nU cU) ∧ wn.cell? ⟨g4, 2, none⟩ = some (.slice DU dU eU) ∧ wn.cell? ⟨g5, 0, none⟩ = some (.bool ngV) ∧ wn.cell? ⟨g5, 1, none⟩ = some (.slice AV nV cV) ∧ wn.cell? ⟨g5, 2, none⟩ = some (.slice DV dV eV) ∧ wn.cell? ⟨bA, oA + k * 2, none⟩ = some (.int .i64 x) ∧ wn.cell? ⟨bA, oA + k * 2 + 1, none⟩ = some (.int .i64 y) := ⟨(hbn.cell (p := ⟨g4, 0, none⟩) hg_0).trans hS.1, (hbn.cell (p := ⟨g4, 1, none⟩) hg_0).trans hS.2.1, (hbn.cell (p := ⟨g4, 2, none⟩) hg_0).trans hS.2.2.1, (hbn.cell (p := ⟨g5, 0, none⟩) hg_1).trans hS.2.2.2.1, (hbn.cell (p := ⟨g5, 1, none⟩) hg_1).trans hS.2.2.2.2.1, (hbn.cell (p := ⟨g5, 2, none⟩) hg_1).trans hS.2.2.2.2.2.1, (hbn.cell (p := ⟨bA, oA + k * 2, none⟩) hg_2).trans hS.2.2.2.2.2.2.1, (hbn.cell (p := ⟨bA, oA + k * 2 + 1, none⟩) hg_2).trans hS.2.2.2.2.2.2.2⟩
                  have hgn_0 := Nat.lt_of_lt_of_le hg_0 hbn.size
                  have hgn_1 := Nat.lt_of_lt_of_le hg_1 hbn.size
                  have hgn_2 := Nat.lt_of_lt_of_le hg_2 hbn.size
                  refine hK.out _ _ hSn ?_
                  clear hK K hS HBc hg_0 hg_1 hg_2
                  try simp only [List.getElem_toArray, List.getElem_cons_succ, List.getElem_cons_zero, Act.put, List.setIfInBounds_toArray, List.set_cons_zero, List.set_cons_succ]
                  have hS := hSn
                  have HBc := HBn
                  have hg_0 := hgn_0
                  have hg_1 := hgn_1
                  have hg_2 := hgn_2
                  clear hSn HBn hbn hgn_0 hgn_1 hgn_2
                  obtain ⟨wc, rfl⟩ : ∃ x : World, x = wn := ⟨_, rfl⟩
                  refine HT.one (i := 16) (o := _) rfl (by kernel_rfl) (by decide) (by rfl) ?_
                  intro K hK
                  go_simp
                  refine (RMINUS_any ng4 A4 D4 n4 c4 d4 e4 _ _ wc.heap.size (Nat.le_refl _) H4).mono ?_
                  rintro e wn ⟨ng5, A5, n5, c5, D5, d5, e5, rfl, hH5, k5, m5, hbn⟩
                  have H5 := Lib.hid hH5
                  clear hH5
                  clear H4
                  replace H1 := Lib.hid (H1.out.to hbn (Nat.le_refl _) hbn.size)
                  replace HA := Lib.hid ((hbn.block g9 (blk_lt HA.out)).trans HA.out)
                  have HBn := Lib.hid (HBc.out.trans (hbn.mono HBc.out.size))
                  have hSn : wn.cell? ⟨g4, 0, none⟩ = some (.bool ngU) ∧ wn.cell? ⟨g4, 1, none⟩ = some (.slice AU nU cU) ∧ wn.cell? ⟨g4, 2, none⟩ = some (.slice DU dU eU) ∧ wn.cell? ⟨g5, 0, none⟩ = some (.bool ngV) ∧ wn.cell? ⟨g5, 1, none⟩ = some (.slice AV nV cV) ∧ wn.cell? ⟨g5, 2, none⟩ = some (.slice DV dV eV) ∧ wn.cell? ⟨bA, oA + k * 2, none⟩ = some (.int .i64 x) ∧ wn.cell? ⟨bA, oA + k * 2 + 1, none⟩ = some (.int .i64 y) := ⟨(hbn.cell (p := ⟨g4, 0, none⟩) hg_0).trans hS.1, (hbn.cell (p := ⟨g4, 1, none⟩) hg_0).trans hS.2.1, (hbn.cell (p := ⟨g4, 2, none⟩) hg_0).trans hS.2.2.1, (hbn.cell (p := ⟨g5, 0, none⟩) hg_1).trans hS.2.2.2.1, (hbn.cell (p := ⟨g5, 1, none⟩) hg_1).trans hS.2.2.2.2.1, (hbn.cell (p := ⟨g5, 2, none⟩) hg_1).trans hS.2.2.2.2.2.1, (hbn.cell (p := ⟨bA, oA + k * 2, none⟩) hg_2).trans hS.2.2.2.2.2.2.1, (hbn.cell (p := ⟨bA, oA + k * 2 + 1, none⟩) hg_2).trans hS.2.2.2.2.2.2.2⟩
                  have hgn_0 := Nat.lt_of_lt_of_le hg_0 hbn.size
                  have hgn_1 := Nat.lt_of_lt_of_le hg_1 hbn.size
                  have hgn_2 := Nat.lt_of_lt_of_le hg_2 hbn.size
                  refine hK.out _ _ hSn ?_
                  clear hK K hS HBc hg_0 hg_1 hg_2
                  try simp only [List.getElem_toArray, List.getElem_cons_succ, List.getElem_cons_zero, Act.put, List.setIfInBounds_toArray, List.set_cons_zero, List.set_cons_succ]
                  have hS := hSn
                  have HBc := HBn
                  have hg_0 := hgn_0
                  have hg_1 := hgn_1
                  have hg_2 := hgn_2
                  clear hSn HBn hbn hgn_0 hgn_1 hgn_2
                  obtain ⟨wc, rfl⟩ : ∃ x : World, x = wn := ⟨_, rfl⟩
                  refine HT.one (i := 17) (o := _) rfl (by kernel_rfl) (by decide) (by rfl) ?_
                  intro K hK
                  go_simp
                  refine (RPLUS_any ng1 ng5 A1 A5 D1 D5 n1 c1 d1 e1 n5 c5 d5 e5 _ _ (by omega) (by omega) (by omega) (by omega) _ wc.heap.size (Nat.le_refl _) H1 H5).mono ?_
                  rintro e wn ⟨ng6, A6, n6, c6, D6, d6, e6, rfl, hH6, k6, m6, hbn⟩
                  have H6 := Lib.hid hH6
                  clear hH6
                  clear H1 H5
                  replace HA := Lib.hid ((hbn.block g9 (blk_lt HA.out)).trans HA.out)
                  have HBn := Lib.hid (HBc.out.trans (hbn.mono HBc.out.size))
                  have hSn : wn.cell? ⟨g4, 0, none⟩ = some (.bool ngU) ∧ wn.cell? ⟨g4, 1, none⟩ = some (.slice AU nU cU) ∧ wn.cell? ⟨g4, 2, none⟩ = some (.slice DU dU eU) ∧ wn.cell? ⟨g5, 0, none⟩ = some (.bool ngV) ∧ wn.cell? ⟨g5, 1, none⟩ = some (.slice AV nV cV) ∧ wn.cell? ⟨g5, 2, none⟩ = some (.slice DV dV eV) ∧ wn.cell? ⟨bA, oA + k * 2, none⟩ = some (.int .i64 x) ∧ wn.cell? ⟨bA, oA + k * 2 + 1, none⟩ = some (.int .i64 y) := ⟨(hbn.cell (p := ⟨g4, 0, none⟩) hg_0).trans hS.1, (hbn.cell (p := ⟨g4, 1, none⟩) hg_0).trans hS.2.1, (hbn.cell (p := ⟨g4, 2, none⟩) hg_0).trans hS.2.2.1, (hbn.cell (p := ⟨g5, 0, none⟩) hg_1).trans hS.2.2.2.1, (hbn.cell (p := ⟨g5, 1, none⟩) hg_1).trans hS.2.2.2.2.1, (hbn.cell (p := ⟨g5, 2, none⟩) hg_1).trans hS.2.2.2.2.2.1, (hbn.cell (p := ⟨bA, oA + k * 2, none⟩) hg_2).trans hS.2.2.2.2.2.2.1, (hbn.cell (p := ⟨bA, oA + k * 2 + 1, none⟩) hg_2).trans hS.2.2.2.2.2.2.2⟩
                  have hgn_0 := Nat.lt_of_lt_of_le hg_0 hbn.size
                  have hgn_1 := Nat.lt_of_lt_of_le hg_1 hbn.size
                  have hgn_2 := Nat.lt_of_lt_of_le hg_2 hbn.size
                  refine hK.out _ _ hSn ?_
                  clear hK K hS HBc hg_0 hg_1 hg_2
                  try simp only [List.getElem_toArray, List.getElem_cons_succ, List.getElem_cons_zero, Act.put, List.setIfInBounds_toArray, List.set_cons_zero, List.set_cons_succ]
                  have hS := hSn
                  have HBc := HBn
                  have hg_0 := hgn_0
                  have hg_1 := hgn_1
                  have hg_2 := hgn_2
                  clear hSn HBn hbn hgn_0 hgn_1 hgn_2
                  obtain ⟨wc, rfl⟩ : ∃ x : World, x = wn := ⟨_, rfl⟩
                  obtain ⟨r0, r1, r2, f0, f1, f2⟩ := r3_cells HA.out
                  refine HT.done (by kernel_rfl) ?_
                  clear hS
                  simp only [List.drop_succ_cons, List.drop_zero]
                  have HQB := Lib.hid (RBox.store HA.out H6.out)
                  have HBS := Lib.hid (box3_below (v0 := .bool ng6) (v1 := .slice A6 n6 c6) (v2 := .slice D6 d6 e6) HBc.out HGg9.out)
                  go_wp2_with fail
                  go_meet
                  exact ⟨g9, rfl, HQB, HBS⟩
                  -- H6 HA
              · intro K hK
                go_simp
                obtain ⟨wn, g9, hwn, hga9, hHA, hbn0, _⟩ := cell_new0 wc 43 #[.bool false, .slice none 0 0, .slice none 0 0]
                have hbn := hbn0.out
                have HGg9 : Hid (W.heap.size ≤ g9) := by show _ ≤ _; rw [hga9]; exact HBc.out.size
                rw [← hwn, ← hga9]
                have HA := hHA
                clear hwn hga9 hbn0 hHA
                replace HV := Lib.hid (HV.out.to hbn (Nat.le_refl _) hbn.size)
                replace H1 := Lib.hid (H1.out.to hbn (Nat.le_refl _) hbn.size)
                replace H3 := Lib.hid (H3.out.to hbn (Nat.le_refl _) hbn.size)
                have HBn := Lib.hid (HBc.out.trans (hbn.mono HBc.out.size))
                have hSn : wn.cell? ⟨g4, 0, none⟩ = some (.bool ngU) ∧ wn.cell? ⟨g4, 1, none⟩ = some (.slice AU nU cU) ∧ wn.cell? ⟨g4, 2, none⟩ = some (.slice DU dU eU) ∧ wn.cell? ⟨g5, 0, none⟩ = some (.bool ngV) ∧ wn.cell? ⟨g5, 1, none⟩ = some (.slice AV nV cV) ∧ wn.cell? ⟨g5, 2, none⟩ = some (.slice DV dV eV) ∧ wn.cell? ⟨bA, oA + k * 2, none⟩ = some (.int .i64 x) ∧ wn.cell? ⟨bA, oA + k * 2 + 1, none⟩ = some (.int .i64 y) := ⟨(hbn.cell (p := ⟨g4, 0, none⟩) hg_0).trans hS.1, (hbn.cell (p := ⟨g4, 1, none⟩) hg_0).trans hS.2.1, (hbn.cell (p := ⟨g4, 2, none⟩) hg_0).trans hS.2.2.1, (hbn.cell (p := ⟨g5, 0, none⟩) hg_1).trans hS.2.2.2.1, (hbn.cell (p := ⟨g5, 1, none⟩) hg_1).trans hS.2.2.2.2.1, (hbn.cell (p := ⟨g5, 2, none⟩) hg_1).trans hS.2.2.2.2.2.1, (hbn.cell (p := ⟨bA, oA + k * 2, none⟩) hg_2).trans hS.2.2.2.2.2.2.1, (hbn.cell (p := ⟨bA, oA + k * 2 + 1, none⟩) hg_2).trans hS.2.2.2.2.2.2.2⟩
                have hgn_0 := Nat.lt_of_lt_of_le hg_0 hbn.size
                have hgn_1 := Nat.lt_of_lt_of_le hg_1 hbn.size
                have hgn_2 := Nat.lt_of_lt_of_le hg_2 hbn.size
                refine hK.out _ _ hSn ?_
                clear hK K hS HBc hg_0 hg_1 hg_2
                try simp only [List.getElem_toArray, List.getElem_cons_succ, List.getElem_cons_zero, Act.put, List.setIfInBounds_toArray, List.set_cons_zero, List.set_cons_succ]
                have hS := hSn
                have HBc := HBn
                have hg_0 := hgn_0
                have hg_1 := hgn_1
                have hg_2 := hgn_2
                clear hSn HBn hbn hgn_0 hgn_1 hgn_2
                obtain ⟨wc, rfl⟩ : ∃ x : World, x = wn := ⟨_, rfl⟩
                refine HT.one (i := 15) (o := _) rfl (by kernel_rfl) (by decide) (by rfl) ?_
                intro K hK
                go_simp
                refine (RPLUS_any ng3 ngV A3 AV D3 DV n3 c3 d3 e3 nV cV dV eV _ _ (by omega) (by omega) (by omega) (by omega) _ wc.heap.size (Nat.le_refl _) H3 HV).mono ?_
                rintro e wn ⟨ng4, A4, n4, c4, D4, d4, e4, rfl, hH4, k4, m4, hbn⟩
                have H4 := Lib.hid hH4
                clear hH4
                clear HV H3
                replace H1 := Lib.hid (H1.out.to hbn (Nat.le_refl _) hbn.size)
                replace HA := Lib.hid ((hbn.block g9 (blk_lt HA.out)).trans HA.out)
                have HBn := Lib.hid (HBc.out.trans (hbn.mono HBc.out.size))
                have hSn : wn.cell? ⟨g4, 0, none⟩ = some (.bool ngU) ∧ wn.cell? ⟨g4, 1, none⟩ = some (.slice AU nU cU) ∧ wn.cell? ⟨g4, 2, none⟩ = some (.slice DU dU eU) ∧ wn.cell? ⟨g5, 0, none⟩ = some (.bool ngV) ∧ wn.cell? ⟨g5, 1, none⟩ = some (.slice AV nV cV) ∧ wn.cell? ⟨g5, 2, none⟩ = some (.slice DV dV eV) ∧ wn.cell? ⟨bA, oA + k * 2, none⟩ = some (.int .i64 x) ∧ wn.cell? ⟨bA, oA + k * 2 + 1, none⟩ = some (.int .i64 y) := ⟨(hbn.cell (p := ⟨g4, 0, none⟩) hg_0).trans hS.1, (hbn.cell (p := ⟨g4, 1, none⟩) hg_0).trans hS.2.1, (hbn.cell (p := ⟨g4, 2, none⟩) hg_0).trans hS.2.2.1, (hbn.cell (p := ⟨g5, 0, none⟩) hg_1).trans hS.2.2.2.1, (hbn.cell (p := ⟨g5, 1, none⟩) hg_1).trans hS.2.2.2.2.1, (hbn.cell (p := ⟨g5, 2, none⟩) hg_1).trans hS.2.2.2.2.2.1, (hbn.cell (p := ⟨bA, oA + k * 2, none⟩) hg_2).trans hS.2.2.2.2.2.2.1, (hbn.cell (p := ⟨bA, oA + k * 2 + 1, none⟩) hg_2).trans hS.2.2.2.2.2.2.2⟩
                have hgn_0 := Nat.lt_of_lt_of_le hg_0 hbn.size
                have hgn_1 := Nat.lt_of_lt_of_le hg_1 hbn.size
                have hgn_2 := Nat.lt_of_lt_of_le hg_2 hbn.size
                refine hK.out _ _ hSn ?_
                clear hK K hS HBc hg_0 hg_1 hg_2
                try simp only [List.getElem_toArray, List.getElem_cons_succ, List.getElem_cons_zero, Act.put, List.setIfInBounds_toArray, List.set_cons_zero, List.set_cons_succ]
                have hS := hSn
                have HBc := HBn
                have hg_0 := hgn_0
                have hg_1 := hgn_1
                have hg_2 := hgn_2
                clear hSn HBn hbn hgn_0 hgn_1 hgn_2
                obtain ⟨wc, rfl⟩ : ∃ x : World, x = wn := ⟨_, rfl⟩
                refine HT.one (i := 16) (o := _) rfl (by kernel_rfl) (by decide) (by rfl) ?_
                intro K hK
                go_simp
                refine (RMINUS_any ng4 A4 D4 n4 c4 d4 e4 _ _ wc.heap.size (Nat.le_refl _) H4).mono ?_
                rintro e wn ⟨ng5, A5, n5, c5, D5, d5, e5, rfl, hH5, k5, m5, hbn⟩
                have H5 := Lib.hid hH5
                clear hH5
                clear H4
                replace H1 := Lib.hid (H1.out.to hbn (Nat.le_refl _) hbn.size)
                replace HA := Lib.hid ((hbn.block g9 (blk_lt HA.out)).trans HA.out)
                have HBn := Lib.hid (HBc.out.trans (hbn.mono HBc.out.size))
                have hSn : wn.cell? ⟨g4, 0, none⟩ = some (.bool ngU) ∧ wn.cell? ⟨g4, 1, none⟩ = some (.slice AU nU cU) ∧ wn.cell? ⟨g4, 2, none⟩ = some (.slice DU dU eU) ∧ wn.cell? ⟨g5, 0, none⟩ = some (.bool ngV) ∧ wn.cell? ⟨g5, 1, none⟩ = some (.slice AV nV cV) ∧ wn.cell? ⟨g5, 2, none⟩ = some (.slice DV dV eV) ∧ wn.cell? ⟨bA, oA + k * 2, none⟩ = some (.int .i64 x) ∧ wn.cell? ⟨bA, oA + k * 2 + 1, none⟩ = some (.int .i64 y) := ⟨(hbn.cell (p := ⟨g4, 0, none⟩) hg_0).trans hS.1, (hbn.cell (p := ⟨g4, 1, none⟩) hg_0).trans hS.2.1, (hbn.cell (p := ⟨g4, 2, none⟩) hg_0).trans hS.2.2.1, (hbn.cell (p := ⟨g5, 0, none⟩) hg_1).trans hS.2.2.2.1, (hbn.cell (p := ⟨g5, 1, none⟩) hg_1).trans hS.2.2.2.2.1, (hbn.cell (p := ⟨g5, 2, none⟩) hg_1).trans hS.2.2.2.2.2.1, (hbn.cell (p := ⟨bA, oA + k * 2, none⟩) hg_2).trans hS.2.2.2.2.2.2.1, (hbn.cell (p := ⟨bA, oA + k * 2 + 1, none⟩) hg_2).trans hS.2.2.2.2.2.2.2⟩
                have hgn_0 := Nat.lt_of_lt_of_le hg_0 hbn.size
                have hgn_1 := Nat.lt_of_lt_of_le hg_1 hbn.size
                have hgn_2 := Nat.lt_of_lt_of_le hg_2 hbn.size
                refine hK.out _ _ hSn ?_
                clear hK K hS HBc hg_0 hg_1 hg_2
                try simp only [List.getElem_toArray, List.getElem_cons_succ, List.getElem_cons_zero, Act.put, List.setIfInBounds_toArray, List.set_cons_zero, List.set_cons_succ]
                have hS := hSn
                have HBc := HBn
                have hg_0 := hgn_0
                have hg_1 := hgn_1
                have hg_2 := hgn_2
                clear hSn HBn hbn hgn_0 hgn_1 hgn_2
                obtain ⟨wc, rfl⟩ : ∃ x : World, x = wn := ⟨_, rfl⟩
                refine HT.one (i := 17) (o := _) rfl (by kernel_rfl) (by decide) (by rfl) ?_
                intro K hK
                go_simp
                refine (RPLUS_any ng1 ng5 A1 A5 D1 D5 n1 c1 d1 e1 n5 c5 d5 e5 _ _ (by omega) (by omega) (by omega) (by omega) _ wc.heap.size (Nat.le_refl _) H1 H5).mono ?_
                rintro e wn ⟨ng6, A6, n6, c6, D6, d6, e6, rfl, hH6, k6, m6, hbn⟩
                have H6 := Lib.hid hH6
                clear hH6
                clear H1 H5
                replace HA := Lib.hid ((hbn.block g9 (blk_lt HA.out)).trans HA.out)
                have HBn := Lib.hid (HBc.out.trans (hbn.mono HBc.out.size))
                have hSn : wn.cell? ⟨g4, 0, none⟩ = some (.bool ngU) ∧ wn.cell? ⟨g4, 1, none⟩ = some (.slice AU nU cU) ∧ wn.cell? ⟨g4, 2, none⟩ = some (.slice DU dU eU) ∧ wn.cell? ⟨g5, 0, none⟩ = some (.bool ngV) ∧ wn.cell? ⟨g5, 1, none⟩ = some (.slice AV nV cV) ∧ wn.cell? ⟨g5, 2, none⟩ = some (.slice DV dV eV) ∧ wn.cell? ⟨bA, oA + k * 2, none⟩ = some (.int .i64 x) ∧ wn.cell? ⟨bA, oA + k * 2 + 1, none⟩ = some (.int .i64 y) := ⟨(hbn.cell (p := ⟨g4, 0, none⟩) hg_0).trans hS.1, (hbn.cell (p := ⟨g4, 1, none⟩) hg_0).trans hS.2.1, (hbn.cell (p := ⟨g4, 2, none⟩) hg_0).trans hS.2.2.1, (hbn.cell (p := ⟨g5, 0, none⟩) hg_1).trans hS.2.2.2.1, (hbn.cell (p := ⟨g5, 1, none⟩) hg_1).trans hS.2.2.2.2.1, (hbn.cell (p := ⟨g5, 2, none⟩) hg_1).trans hS.2.2.2.2.2.1, (hbn.cell (p := ⟨bA, oA + k * 2, none⟩) hg_2).trans hS.2.2.2.2.2.2.1, (hbn.cell (p := ⟨bA, oA + k * 2 + 1, none⟩) hg_2).trans hS.2.2.2.2.2.2.2⟩
                have hgn_0 := Nat.lt_of_lt_of_le hg_0 hbn.size
                have hgn_1 := Nat.lt_of_lt_of_le hg_1 hbn.size
                have hgn_2 := Nat.lt_of_lt_of_le hg_2 hbn.size
                refine hK.out _ _ hSn ?_
                clear hK K hS HBc hg_0 hg_1 hg_2
                try simp only [List.getElem_toArray, List.getElem_cons_succ, List.getElem_cons_zero, Act.put, List.setIfInBounds_toArray, List.set_cons_zero, List.set_cons_succ]
                have hS := hSn
                have HBc := HBn
                have hg_0 := hgn_0
                have hg_1 := hgn_1
                have hg_2 := hgn_2
                clear hSn HBn hbn hgn_0 hgn_1 hgn_2
                obtain ⟨wc, rfl⟩ : ∃ x : World, x = wn := ⟨_, rfl⟩
                obtain ⟨r0, r1, r2, f0, f1, f2⟩ := r3_cells HA.out
                refine HT.done (by kernel_rfl) ?_
                clear hS
                simp only [List.drop_succ_cons, List.drop_zero]
                have HQB := Lib.hid (RBox.store HA.out H6.out)
                have HBS := Lib.hid (box3_below (v0 := .bool ng6) (v1 := .slice A6 n6 c6) (v2 := .slice D6 d6 e6) HBc.out HGg9.out)
                go_wp2_with fail
                go_meet
                exact ⟨g9, rfl, HQB, HBS⟩
                -- H6 HA
            · intro K hK
              go_simp
              obtain ⟨wn, g9, hwn, hga9, hHA, hbn0, _⟩ := cell_new0 wc 43 #[.bool false, .slice none 0 0, .slice none 0 0]
              have hbn := hbn0.out
              have HGg9 : Hid (W.heap.size ≤ g9) := by show _ ≤ _; rw [hga9]; exact HBc.out.size
              rw [← hwn, ← hga9]
              have HA := hHA
              clear hwn hga9 hbn0 hHA
              replace HU := Lib.hid (HU.out.to hbn (Nat.le_refl _) hbn.size)
              replace HV := Lib.hid (HV.out.to hbn (Nat.le_refl _) hbn.size)
              replace H1 := Lib.hid (H1.out.to hbn (Nat.le_refl _) hbn.size)
              replace H2 := Lib.hid (H2.out.to hbn (Nat.le_refl _) hbn.size)
              have HBn := Lib.hid (HBc.out.trans (hbn.mono HBc.out.size))
              have hSn : wn.cell? ⟨g4, 0, none⟩ = some (.bool ngU) ∧ wn.cell? ⟨g4, 1, none⟩ = some (.slice AU nU cU) ∧ wn.cell? ⟨g4, 2, none⟩ = some (.slice DU dU eU) ∧ wn.cell? ⟨g5, 0, none⟩ = some (.bool ngV) ∧ wn.cell? ⟨g5, 1, none⟩ = some (.slice AV nV cV) ∧ wn.cell? ⟨g5, 2, none⟩ = some (.slice DV dV eV) ∧ wn.cell? ⟨bA, oA + k * 2, none⟩ = some (.int .i64 x) ∧ wn.cell? ⟨bA, oA + k * 2 + 1, none⟩ = some (.int .i64 y) := ⟨(hbn.cell (p := ⟨g4, 0, none⟩) hg_0).trans hS.1, (hbn.cell (p := ⟨g4, 1, none⟩) hg_0).trans hS.2.1, (hbn.cell (p := ⟨g4, 2, none⟩) hg_0).trans hS.2.2.1, (hbn.cell (p := ⟨g5, 0, none⟩) hg_1).trans hS.2.2.2.1, (hbn.cell (p := ⟨g5, 1, none⟩) hg_1).trans hS.2.2.2.2.1, (hbn.cell (p := ⟨g5, 2, none⟩) hg_1).trans hS.2.2.2.2.2.1, (hbn.cell (p := ⟨bA, oA + k * 2, none⟩) hg_2).trans hS.2.2.2.2.2.2.1, (hbn.cell (p := ⟨bA, oA + k * 2 + 1, none⟩) hg_2).trans hS.2.2.2.2.2.2.2⟩
              have hgn_0 := Nat.lt_of_lt_of_le hg_0 hbn.size
              have hgn_1 := Nat.lt_of_lt_of_le hg_1 hbn.size
              have hgn_2 := Nat.lt_of_lt_of_le hg_2 hbn.size
              refine hK.out _ _ hSn ?_
              clear hK K hS HBc hg_0 hg_1 hg_2
              try simp only [List.getElem_toArray, List.getElem_cons_succ, List.getElem_cons_zero, Act.put, List.setIfInBounds_toArray, List.set_cons_zero, List.set_cons_succ]
              have hS := hSn
              have HBc := HBn
              have hg_0 := hgn_0
              have hg_1 := hgn_1
              have hg_2 := hgn_2
              clear hSn HBn hbn hgn_0 hgn_1 hgn_2
              obtain ⟨wc, rfl⟩ : ∃ x : World, x = wn := ⟨_, rfl⟩
              refine HT.one (i := 13) (o := _) rfl (by kernel_rfl) (by decide) (by rfl) ?_
              intro K hK
              go_simp
              refine (RNTIMES_any ngU ng2 AU A2 DU D2 nU cU dU eU n2 c2 d2 e2 _ _ (by omega) (by omega) (by omega) (by omega) _ wc.heap.size (Nat.le_refl _) HU H2).mono ?_
              rintro e wn ⟨ng3, A3, n3, c3, D3, d3, e3, rfl, hH3, k3, m3, hbn⟩
              have H3 := Lib.hid hH3
              clear hH3
              clear HU H2
              replace HV := Lib.hid (HV.out.to hbn (Nat.le_refl _) hbn.size)
              replace H1 := Lib.hid (H1.out.to hbn (Nat.le_refl _) hbn.size)
              replace HA := Lib.hid ((hbn.block g9 (blk_lt HA.out)).trans HA.out)
              have HBn := Lib.hid (HBc.out.trans (hbn.mono HBc.out.size))
              have hSn : wn.cell? ⟨g4, 0, none⟩ = some (.bool ngU) ∧ wn.cell? ⟨g4, 1, none⟩ = some (.slice AU nU cU) ∧ wn.cell? ⟨g4, 2, none⟩ = some (.slice DU dU eU) ∧ wn.cell? ⟨g5, 0, none⟩ = some (.bool ngV) ∧ wn.cell? ⟨g5, 1, none⟩ = some (.slice AV nV cV) ∧ wn.cell? ⟨g5, 2, none⟩ = some (.slice DV dV eV) ∧ wn.cell? ⟨bA, oA + k * 2, none⟩ = some (.int .i64 x) ∧ wn.cell? ⟨bA, oA + k * 2 + 1, none⟩ = some (.int .i64 y) := ⟨(hbn.cell (p := ⟨g4, 0, none⟩) hg_0).trans hS.1, (hbn.cell (p := ⟨g4, 1, none⟩) hg_0).trans hS.2.1, (hbn.cell (p := ⟨g4, 2, none⟩) hg_0).trans hS.2.2.1, (hbn.cell (p := ⟨g5, 0, none⟩) hg_1).trans hS.2.2.2.1, (hbn.cell (p := ⟨g5, 1, none⟩) hg_1).trans hS.2.2.2.2.1, (hbn.cell (p := ⟨g5, 2, none⟩) hg_1).trans hS.2.2.2.2.2.1, (hbn.cell (p := ⟨bA, oA + k * 2, none⟩) hg_2).trans hS.2.2.2.2.2.2.1, (hbn.cell (p := ⟨bA, oA + k * 2 + 1, none⟩) hg_2).trans hS.2.2.2.2.2.2.2⟩
              have hgn_0 := Nat.lt_of_lt_of_le hg_0 hbn.size
              have hgn_1 := Nat.lt_of_lt_of_le hg_1 hbn.size
              have hgn_2 := Nat.lt_of_lt_of_le hg_2 hbn.size
              refine hK.out _ _ hSn ?_
              clear hK K hS HBc hg_0 hg_1 hg_2
              try simp only [List.getElem_toArray, List.getElem_cons_succ, List.getElem_cons_zero, Act.put, List.setIfInBounds_toArray, List.set_cons_zero, List.set_cons_succ]
              have hS := hSn
              have HBc := HBn
              have hg_0 := hgn_0
              have hg_1 := hgn_1
              have hg_2 := hgn_2
              clear hSn HBn hbn hgn_0 hgn_1 hgn_2
              obtain ⟨wc, rfl⟩ : ∃ x : World, x = wn := ⟨_, rfl⟩
              refine HT.one (i := 15) (o := _) rfl (by kernel_rfl) (by decide) (by rfl) ?_
              intro K hK
              go_simp
              refine (RPLUS_any ng3 ngV A3 AV D3 DV n3 c3 d3 e3 nV cV dV eV _ _ (by omega) (by omega) (by omega) (by omega) _ wc.heap.size (Nat.le_refl _) H3 HV).mono ?_
              rintro e wn ⟨ng4, A4, n4, c4, D4, d4, e4, rfl, hH4, k4, m4, hbn⟩
              have H4 := Lib.hid hH4
              clear hH4
              clear HV H3
              replace H1 := Lib.hid (H1.out.to hbn (Nat.le_refl _) hbn.size)
              replace HA := Lib.hid ((hbn.block g9 (blk_lt HA.out)).trans HA.out)
              have HBn := Lib.hid (HBc.out.trans (hbn.mono HBc.out.size))
              have hSn : wn.cell? ⟨g4, 0, none⟩ = some (.bool ngU) ∧ wn.cell? ⟨g4, 1, none⟩ = some (.slice AU nU cU) ∧ wn.cell? ⟨g4, 2, none⟩ = some (.slice DU dU eU) ∧ wn.cell? ⟨g5, 0, none⟩ = some (.bool ngV) ∧ wn.cell? ⟨g5, 1, none⟩ = some (.slice AV nV cV) ∧ wn.cell? ⟨g5, 2, none⟩ = some (.slice DV dV eV) ∧ wn.cell? ⟨bA, oA + k * 2, none⟩ = some (.int .i64 x) ∧ wn.cell? ⟨bA, oA + k * 2 + 1, none⟩ = some (.int .i64 y) := ⟨(hbn.cell (p := ⟨g4, 0, none⟩) hg_0).trans hS.1, (hbn.cell (p := ⟨g4, 1, none⟩) hg_0).trans hS.2.1, (hbn.cell (p := ⟨g4, 2, none⟩) hg_0).trans hS.2.2.1, (hbn.cell (p := ⟨g5, 0, none⟩) hg_1).trans hS.2.2.2.1, (hbn.cell (p := ⟨g5, 1, none⟩) hg_1).trans hS.2.2.2.2.1, (hbn.cell (p := ⟨g5, 2, none⟩) hg_1).trans hS.2.2.2.2.2.1, (hbn.cell (p := ⟨bA, oA + k * 2, none⟩) hg_2).trans hS.2.2.2.2.2.2.1, (hbn.cell (p := ⟨bA, oA + k * 2 + 1, none⟩) hg_2).trans hS.2.2.2.2.2.2.2⟩
              have hgn_0 := Nat.lt_of_lt_of_le hg_0 hbn.size
              have hgn_1 := Nat.lt_of_lt_of_le hg_1 hbn.size
              have hgn_2 := Nat.lt_of_lt_of_le hg_2 hbn.size
              refine hK.out _ _ hSn ?_
              clear hK K hS HBc hg_0 hg_1 hg_2
              try simp only [List.getElem_toArray, List.getElem_cons_succ, List.getElem_cons_zero, Act.put, List.setIfInBounds_toArray, List.set_cons_zero, List.set_cons_succ]
              have hS := hSn
              have HBc := HBn
              have hg_0 := hgn_0
              have hg_1 := hgn_1
              have hg_2 := hgn_2
              clear hSn HBn hbn hgn_0 hgn_1 hgn_2
              obtain ⟨wc, rfl⟩ : ∃ x : World, x = wn := ⟨_, rfl⟩
              refine HT.one (i := 16) (o := _) rfl (by kernel_rfl) (by decide) (by rfl) ?_
              intro K hK
              go_simp
              refine (RMINUS_any ng4 A4 D4 n4 c4 d4 e4 _ _ wc.heap.size (Nat.le_refl _) H4).mono ?_
              rintro e wn ⟨ng5, A5, n5, c5, D5, d5, e5, rfl, hH5, k5, m5, hbn⟩
              have H5 := Lib.hid hH5
              clear hH5
              clear H4
              replace H1 := Lib.hid (H1.out.to hbn (Nat.le_refl _) hbn.size)
              replace HA := Lib.hid ((hbn.block g9 (blk_lt HA.out)).trans HA.out)
              have HBn := Lib.hid (HBc.out.trans (hbn.mono HBc.out.size))
              have hSn : wn.cell? ⟨g4, 0, none⟩ = some (.bool ngU) ∧ wn.cell? ⟨g4, 1, none⟩ = some (.slice AU nU cU) ∧ wn.cell? ⟨g4, 2, none⟩ = some (.slice DU dU eU) ∧ wn.cell? ⟨g5, 0, none⟩ = some (.bool ngV) ∧ wn.cell? ⟨g5, 1, none⟩ = some (.slice AV nV cV) ∧ wn.cell? ⟨g5, 2, none⟩ = some (.slice DV dV eV) ∧ wn.cell? ⟨bA, oA + k * 2, none⟩ = some (.int .i64 x) ∧ wn.cell? ⟨bA, oA + k * 2 + 1, none⟩ = some (.int .i64 y) := ⟨(hbn.cell (p := ⟨g4, 0, none⟩) hg_0).trans hS.1, (hbn.cell (p := ⟨g4, 1, none⟩) hg_0).trans hS.2.1, (hbn.cell (p := ⟨g4, 2, none⟩) hg_0).trans hS.2.2.1, (hbn.cell (p := ⟨g5, 0, none⟩) hg_1).trans hS.2.2.2.1, (hbn.cell (p := ⟨g5, 1, none⟩) hg_1).trans hS.2.2.2.2.1, (hbn.cell (p := ⟨g5, 2, none⟩) hg_1).trans hS.2.2.2.2.2.1, (hbn.cell (p := ⟨bA, oA + k * 2, none⟩) hg_2).trans hS.2.2.2.2.2.2.1, (hbn.cell (p := ⟨bA, oA + k * 2 + 1, none⟩) hg_2).trans hS.2.2.2.2.2.2.2⟩
              have hgn_0 := Nat.lt_of_lt_of_le hg_0 hbn.size
              have hgn_1 := Nat.lt_of_lt_of_le hg_1 hbn.size
              have hgn_2 := Nat.lt_of_lt_of_le hg_2 hbn.size
              refine hK.out _ _ hSn ?_
              clear hK K hS HBc hg_0 hg_1 hg_2
              try simp only [List.getElem_toArray, List.getElem_cons_succ, List.getElem_cons_zero, Act.put, List.setIfInBounds_toArray, List.set_cons_zero, List.set_cons_succ]
              have hS := hSn
              have HBc := HBn
              have hg_0 := hgn_0
              have hg_1 := hgn_1
              have hg_2 := hgn_2
              clear hSn HBn hbn hgn_0 hgn_1 hgn_2
              obtain ⟨wc, rfl⟩ : ∃ x : World, x = wn := ⟨_, rfl⟩
              refine HT.one (i := 17) (o := _) rfl (by kernel_rfl) (by decide) (by rfl) ?_
              intro K hK
              go_simp
              refine (RPLUS_any ng1 ng5 A1 A5 D1 D5 n1 c1 d1 e1 n5 c5 d5 e5 _ _ (by omega) (by omega) (by omega) (by omega) _ wc.heap.size (Nat.le_refl _) H1 H5).mono ?_
              rintro e wn ⟨ng6, A6, n6, c6, D6, d6, e6, rfl, hH6, k6, m6, hbn⟩
              have H6 := Lib.hid hH6
              clear hH6
              clear H1 H5
              replace HA := Lib.hid ((hbn.block g9 (blk_lt HA.out)).trans HA.out)
              have HBn := Lib.hid (HBc.out.trans (hbn.mono HBc.out.size))
              have hSn : wn.cell? ⟨g4, 0, none⟩ = some (.bool ngU) ∧ wn.cell? ⟨g4, 1, none⟩ = some (.slice AU nU cU) ∧ wn.cell? ⟨g4, 2, none⟩ = some (.slice DU dU eU) ∧ wn.cell? ⟨g5, 0, none⟩ = some (.bool ngV) ∧ wn.cell? ⟨g5, 1, none⟩ = some (.slice AV nV cV) ∧ wn.cell? ⟨g5, 2, none⟩ = some (.slice DV dV eV) ∧ wn.cell? ⟨bA, oA + k * 2, none⟩ = some (.int .i64 x) ∧ wn.cell? ⟨bA, oA + k * 2 + 1, none⟩ = some (.int .i64 y) := ⟨(hbn.cell (p := ⟨g4, 0, none⟩) hg_0).trans hS.1, (hbn.cell (p := ⟨g4, 1, none⟩) hg_0).trans hS.2.1, (hbn.cell (p := ⟨g4, 2, none⟩) hg_0).trans hS.2.2.1, (hbn.cell (p := ⟨g5, 0, none⟩) hg_1).trans hS.2.2.2.1, (hbn.cell (p := ⟨g5, 1, none⟩) hg_1).trans hS.2.2.2.2.1, (hbn.cell (p := ⟨g5, 2, none⟩) hg_1).trans hS.2.2.2.2.2.1, (hbn.cell (p := ⟨bA, oA + k * 2, none⟩) hg_2).trans hS.2.2.2.2.2.2.1, (hbn.cell (p := ⟨bA, oA + k * 2 + 1, none⟩) hg_2).trans hS.2.2.2.2.2.2.2⟩
              have hgn_0 := Nat.lt_of_lt_of_le hg_0 hbn.size
              have hgn_1 := Nat.lt_of_lt_of_le hg_1 hbn.size
              have hgn_2 := Nat.lt_of_lt_of_le hg_2 hbn.size
              refine hK.out _ _ hSn ?_
              clear hK K hS HBc hg_0 hg_1 hg_2
              try simp only [List.getElem_toArray, List.getElem_cons_succ, List.getElem_cons_zero, Act.put, List.setIfInBounds_toArray, List.set_cons_zero, List.set_cons_succ]
              have hS := hSn
              have HBc := HBn
              have hg_0 := hgn_0
              have hg_1 := hgn_1
              have hg_2 := hgn_2
              clear hSn HBn hbn hgn_0 hgn_1 hgn_2
              obtain ⟨wc, rfl⟩ : ∃ x : World, x = wn := ⟨_, rfl⟩
              obtain ⟨r0, r1, r2, f0, f1, f2⟩ := r3_cells HA.out
              refine HT.done (by kernel_rfl) ?_
              clear hS
              simp only [List.drop_succ_cons, List.drop_zero]
              have HQB := Lib.hid (RBox.store HA.out H6.out)
              have HBS := Lib.hid (box3_below (v0 := .bool ng6) (v1 := .slice A6 n6 c6) (v2 := .slice D6 d6 e6) HBc.out HGg9.out)
              go_wp2_with fail
              go_meet
              exact ⟨g9, rfl, HQB, HBS⟩
              -- H6 HA
          · intro K hK
            go_simp
            obtain ⟨wn, g9, hwn, hga9, hHA, hbn0, _⟩ := cell_new0 wc 43 #[.bool false, .slice none 0 0, .slice none 0 0]
            have hbn := hbn0.out
            have HGg9 : Hid (W.heap.size ≤ g9) := by show _ ≤ _; rw [hga9]; exact HBc.out.size
            rw [← hwn, ← hga9]
            have HA := hHA
            clear hwn hga9 hbn0 hHA
            replace HU := Lib.hid (HU.out.to hbn (Nat.le_refl _) hbn.size)
            replace HV := Lib.hid (HV.out.to hbn (Nat.le_refl _) hbn.size)
            replace HTB := Lib.hid (HTB.out.below hbn)
            replace H1 := Lib.hid (H1.out.to hbn (Nat.le_refl _) hbn.size)
            have HBn := Lib.hid (HBc.out.trans (hbn.mono HBc.out.size))
            have hSn : wn.cell? ⟨g4, 0, none⟩ = some (.bool ngU) ∧ wn.cell? ⟨g4, 1, none⟩ = some (.slice AU nU cU) ∧ wn.cell? ⟨g4, 2, none⟩ = some (.slice DU dU eU) ∧ wn.cell? ⟨g5, 0, none⟩ = some (.bool ngV) ∧ wn.cell? ⟨g5, 1, none⟩ = some (.slice AV nV cV) ∧ wn.cell? ⟨g5, 2, none⟩ = some (.slice DV dV eV) ∧ wn.cell? ⟨bA, oA + k * 2, none⟩ = some (.int .i64 x) ∧ wn.cell? ⟨bA, oA + k * 2 + 1, none⟩ = some (.int .i64 y) := ⟨(hbn.cell (p := ⟨g4, 0, none⟩) hg_0).trans hS.1, (hbn.cell (p := ⟨g4, 1, none⟩) hg_0).trans hS.2.1, (hbn.cell (p := ⟨g4, 2, none⟩) hg_0).trans hS.2.2.1, (hbn.cell (p := ⟨g5, 0, none⟩) hg_1).trans hS.2.2.2.1, (hbn.cell (p := ⟨g5, 1, none⟩) hg_1).trans hS.2.2.2.2.1, (hbn.cell (p := ⟨g5, 2, none⟩) hg_1).trans hS.2.2.2.2.2.1, (hbn.cell (p := ⟨bA, oA + k * 2, none⟩) hg_2).trans hS.2.2.2.2.2.2.1, (hbn.cell (p := ⟨bA, oA + k * 2 + 1, none⟩) hg_2).trans hS.2.2.2.2.2.2.2⟩
            have hgn_0 := Nat.lt_of_lt_of_le hg_0 hbn.size
            have hgn_1 := Nat.lt_of_lt_of_le hg_1 hbn.size
            have hgn_2 := Nat.lt_of_lt_of_le hg_2 hbn.size
            refine hK.out _ _ hSn ?_
            clear hK K hS HBc hg_0 hg_1 hg_2
            try simp only [List.getElem_toArray, List.getElem_cons_succ, List.getElem_cons_zero, Act.put, List.setIfInBounds_toArray, List.set_cons_zero, List.set_cons_succ]
            have hS := hSn
            have HBc := HBn
            have hg_0 := hgn_0
            have hg_1 := hgn_1
            have hg_2 := hgn_2
            clear hSn HBn hbn hgn_0 hgn_1 hgn_2
            obtain ⟨wc, rfl⟩ : ∃ x : World, x = wn := ⟨_, rfl⟩
            refine HT.one (i := 12) (o := _) rfl (by kernel_rfl) (by decide) (by rfl) ?_
            intro K hK
            go_simp
            refine (RINT_any x (by omega) (by omega) _ HTB).mono ?_
            rintro e wn ⟨ng2, A2, n2, c2, D2, d2, e2, rfl, hH2, k2, m2, hbn⟩
            have H2 := Lib.hid hH2
            clear hH2
            clear HTB
            replace HU := Lib.hid (HU.out.to hbn (Nat.le_refl _) hbn.size)
            replace HV := Lib.hid (HV.out.to hbn (Nat.le_refl _) hbn.size)
            replace H1 := Lib.hid (H1.out.to hbn (Nat.le_refl _) hbn.size)
            replace HA := Lib.hid ((hbn.block g9 (blk_lt HA.out)).trans HA.out)
            have HBn := Lib.hid (HBc.out.trans (hbn.mono HBc.out.size))
            have hSn : wn.cell? ⟨g4, 0, none⟩ = some (.bool ngU) ∧ wn.cell? ⟨g4, 1, none⟩ = some (.slice AU nU cU) ∧ wn.cell? ⟨g4, 2, none⟩ = some (.slice DU dU eU) ∧ wn.cell? ⟨g5, 0, none⟩ = some (.bool ngV) ∧ wn.cell? ⟨g5, 1, none⟩ = some (.slice AV nV cV) ∧ wn.cell? ⟨g5, 2, none⟩ = some (.slice DV dV eV) ∧ wn.cell? ⟨bA, oA + k * 2, none⟩ = some (.int .i64 x) ∧ wn.cell? ⟨bA, oA + k * 2 + 1, none⟩ = some (.int .i64 y) := ⟨(hbn.cell (p := ⟨g4, 0, none⟩) hg_0).trans hS.1, (hbn.cell (p := ⟨g4, 1, none⟩) hg_0).trans hS.2.1, (hbn.cell (p := ⟨g4, 2, none⟩) hg_0).trans hS.2.2.1, (hbn.cell (p := ⟨g5, 0, none⟩) hg_1).trans hS.2.2.2.1, (hbn.cell (p := ⟨g5, 1, none⟩) hg_1).trans hS.2.2.2.2.1, (hbn.cell (p := ⟨g5, 2, none⟩) hg_1).trans hS.2.2.2.2.2.1, (hbn.cell (p := ⟨bA, oA + k * 2, none⟩) hg_2).trans hS.2.2.2.2.2.2.1, (hbn.cell (p := ⟨bA, oA + k * 2 + 1, none⟩) hg_2).trans hS.2.2.2.2.2.2.2⟩
            have hgn_0 := Nat.lt_of_lt_of_le hg_0 hbn.size
            have hgn_1 := Nat.lt_of_lt_of_le hg_1 hbn.size
            have hgn_2 := Nat.lt_of_lt_of_le hg_2 hbn.size
            refine hK.out _ _ hSn ?_
            clear hK K hS HBc hg_0 hg_1 hg_2
            try simp only [List.getElem_toArray, List.getElem_cons_succ, List.getElem_cons_zero, Act.put, List.setIfInBounds_toArray, List.set_cons_zero, List.set_cons_succ]
            have hS := hSn
            have HBc := HBn
            have hg_0 := hgn_0
            have hg_1 := hgn_1
            have hg_2 := hgn_2
            clear hSn HBn hbn hgn_0 hgn_1 hgn_2
            obtain ⟨wc, rfl⟩ : ∃ x : World, x = wn := ⟨_, rfl⟩
            refine HT.one (i := 13) (o := _) rfl (by kernel_rfl) (by decide) (by rfl) ?_
            intro K hK
            go_simp
            refine (RNTIMES_any ngU ng2 AU A2 DU D2 nU cU dU eU n2 c2 d2 e2 _ _ (by omega) (by omega) (by omega) (by omega) _ wc.heap.size (Nat.le_refl _) HU H2).mono ?_
            rintro e wn ⟨ng3, A3, n3, c3, D3, d3, e3, rfl, hH3, k3, m3, hbn⟩
            have H3 := Lib.hid hH3
            clear hH3
            clear HU H2
            replace HV := Lib.hid (HV.out.to hbn (Nat.le_refl _) hbn.size)
            replace H1 := Lib.hid (H1.out.to hbn (Nat.le_refl _) hbn.size)
            replace HA := Lib.hid ((hbn.block g9 (blk_lt HA.out)).trans HA.out)
            have HBn := Lib.hid (HBc.out.trans (hbn.mono HBc.out.size))
            have hSn : wn.cell? ⟨g4, 0, none⟩ = some (.bool ngU) ∧ wn.cell? ⟨g4, 1, none⟩ = some (.slice AU nU cU) ∧ wn.cell? ⟨g4, 2, none⟩ = some (.slice DU dU eU) ∧ wn.cell? ⟨g5, 0, none⟩ = some (.bool ngV) ∧ wn.cell? ⟨g5, 1, none⟩ = some (.slice AV nV cV) ∧ wn.cell? ⟨g5, 2, none⟩ = some (.slice DV dV eV) ∧ wn.cell? ⟨bA, oA + k * 2, none⟩ = some (.int .i64 x) ∧ wn.cell? ⟨bA, oA + k * 2 + 1, none⟩ = some (.int .i64 y) := ⟨(hbn.cell (p := ⟨g4, 0, none⟩) hg_0).trans hS.1, (hbn.cell (p := ⟨g4, 1, none⟩) hg_0).trans hS.2.1, (hbn.cell (p := ⟨g4, 2, none⟩) hg_0).trans hS.2.2.1, (hbn.cell (p := ⟨g5, 0, none⟩) hg_1).trans hS.2.2.2.1, (hbn.cell (p := ⟨g5, 1, none⟩) hg_1).trans hS.2.2.2.2.1, (hbn.cell (p := ⟨g5, 2, none⟩) hg_1).trans hS.2.2.2.2.2.1, (hbn.cell (p := ⟨bA, oA + k * 2, none⟩) hg_2).trans hS.2.2.2.2.2.2.1, (hbn.cell (p := ⟨bA, oA + k * 2 + 1, none⟩) hg_2).trans hS.2.2.2.2.2.2.2⟩
            have hgn_0 := Nat.lt_of_lt_of_le hg_0 hbn.size
            have hgn_1 := Nat.lt_of_lt_of_le hg_1 hbn.size
            have hgn_2 := Nat.lt_of_lt_of_le hg_2 hbn.size
            refine hK.out _ _ hSn ?_
            clear hK K hS HBc hg_0 hg_1 hg_2
            try simp only [List.getElem_toArray, List.getElem_cons_succ, List.getElem_cons_zero, Act.put, List.setIfInBounds_toArray, List.set_cons_zero, List.set_cons_succ]
            have hS := hSn
            have HBc := HBn
            have hg_0 := hgn_0
            have hg_1 := hgn_1
            have hg_2 := hgn_2
            clear hSn HBn hbn hgn_0 hgn_1 hgn_2
            obtain ⟨wc, rfl⟩ : ∃ x : World, x = wn := ⟨_, rfl⟩
            refine HT.one (i := 15) (o := _) rfl (by kernel_rfl) (by decide) (by rfl) ?_
            intro K hK
            go_simp
            refine (RPLUS_any ng3 ngV A3 AV D3 DV n3 c3 d3 e3 nV cV dV eV _ _ (by omega) (by omega) (by omega) (by omega) _ wc.heap.size (Nat.le_refl _) H3 HV).mono ?_
            rintro e wn ⟨ng4, A4, n4, c4, D4, d4, e4, rfl, hH4, k4, m4, hbn⟩
            have H4 := Lib.hid hH4
            clear hH4
            clear HV H3
            replace H1 := Lib.hid (H1.out.to hbn (Nat.le_refl _) hbn.size)
            replace HA := Lib.hid ((hbn.block g9 (blk_lt HA.out)).trans HA.out)
            have HBn := Lib.hid (HBc.out.trans (hbn.mono HBc.out.size))
            have hSn : wn.cell? ⟨g4, 0, none⟩ = some (.bool ngU) ∧ wn.cell? ⟨g4, 1, none⟩ = some (.slice AU nU cU) ∧ wn.cell? ⟨g4, 2, none⟩ = some (.slice DU dU eU) ∧ wn.cell? ⟨g5, 0, none⟩ = some (.bool ngV) ∧ wn.cell? ⟨g5, 1, none⟩ = some (.slice AV nV cV) ∧ wn.cell? ⟨g5, 2, none⟩ = some (.slice DV dV eV) ∧ wn.cell? ⟨bA, oA + k * 2, none⟩ = some (.int .i64 x) ∧ wn.cell? ⟨bA, oA + k * 2 + 1, none⟩ = some (.int .i64 y) := ⟨(hbn.cell (p := ⟨g4, 0, none⟩) hg_0).trans hS.1, (hbn.cell (p := ⟨g4, 1, none⟩) hg_0).trans hS.2.1, (hbn.cell (p := ⟨g4, 2, none⟩) hg_0).trans hS.2.2.1, (hbn.cell (p := ⟨g5, 0, none⟩) hg_1).trans hS.2.2.2.1, (hbn.cell (p := ⟨g5, 1, none⟩) hg_1).trans hS.2.2.2.2.1, (hbn.cell (p := ⟨g5, 2, none⟩) hg_1).trans hS.2.2.2.2.2.1, (hbn.cell (p := ⟨bA, oA + k * 2, none⟩) hg_2).trans hS.2.2.2.2.2.2.1, (hbn.cell (p := ⟨bA, oA + k * 2 + 1, none⟩) hg_2).trans hS.2.2.2.2.2.2.2⟩
            have hgn_0 := Nat.lt_of_lt_of_le hg_0 hbn.size
            have hgn_1 := Nat.lt_of_lt_of_le hg_1 hbn.size
            have hgn_2 := Nat.lt_of_lt_of_le hg_2 hbn.size
            refine hK.out _ _ hSn ?_
            clear hK K hS HBc hg_0 hg_1 hg_2
            try simp only [List.getElem_toArray, List.getElem_cons_succ, List.getElem_cons_zero, Act.put, List.setIfInBounds_toArray, List.set_cons_zero, List.set_cons_succ]
            have hS := hSn
            have HBc := HBn
            have hg_0 := hgn_0
            have hg_1 := hgn_1
            have hg_2 := hgn_2
            clear hSn HBn hbn hgn_0 hgn_1 hgn_2
            obtain ⟨wc, rfl⟩ : ∃ x : World, x = wn := ⟨_, rfl⟩
            refine HT.one (i := 16) (o := _) rfl (by kernel_rfl) (by decide) (by rfl) ?_
            intro K hK
            go_simp
            refine (RMINUS_any ng4 A4 D4 n4 c4 d4 e4 _ _ wc.heap.size (Nat.le_refl _) H4).mono ?_
            rintro e wn ⟨ng5, A5, n5, c5, D5, d5, e5, rfl, hH5, k5, m5, hbn⟩
            have H5 := Lib.hid hH5
            clear hH5
            clear H4
            replace H1 := Lib.hid (H1.out.to hbn (Nat.le_refl _) hbn.size)
            replace HA := Lib.hid ((hbn.block g9 (blk_lt HA.out)).trans HA.out)
            have HBn := Lib.hid (HBc.out.trans (hbn.mono HBc.out.size))
            have hSn : wn.cell? ⟨g4, 0, none⟩ = some (.bool ngU) ∧ wn.cell? ⟨g4, 1, none⟩ = some (.slice AU nU cU) ∧ wn.cell? ⟨g4, 2, none⟩ = some (.slice DU dU eU) ∧ wn.cell? ⟨g5, 0, none⟩ = some (.bool ngV) ∧ wn.cell? ⟨g5, 1, none⟩ = some (.slice AV nV cV) ∧ wn.cell? ⟨g5, 2, none⟩ = some (.slice DV dV eV) ∧ wn.cell? ⟨bA, oA + k * 2, none⟩ = some (.int .i64 x) ∧ wn.cell? ⟨bA, oA + k * 2 + 1, none⟩ = some (.int .i64 y) := ⟨(hbn.cell (p := ⟨g4, 0, none⟩) hg_0).trans hS.1, (hbn.cell (p := ⟨g4, 1, none⟩) hg_0).trans hS.2.1, (hbn.cell (p := ⟨g4, 2, none⟩) hg_0).trans hS.2.2.1, (hbn.cell (p := ⟨g5, 0, none⟩) hg_1).trans hS.2.2.2.1, (hbn.cell (p := ⟨g5, 1, none⟩) hg_1).trans hS.2.2.2.2.1, (hbn.cell (p := ⟨g5, 2, none⟩) hg_1).trans hS.2.2.2.2.2.1, (hbn.cell (p := ⟨bA, oA + k * 2, none⟩) hg_2).trans hS.2.2.2.2.2.2.1, (hbn.cell (p := ⟨bA, oA + k * 2 + 1, none⟩) hg_2).trans hS.2.2.2.2.2.2.2⟩
            have hgn_0 := Nat.lt_of_lt_of_le hg_0 hbn.size
            have hgn_1 := Nat.lt_of_lt_of_le hg_1 hbn.size
            have hgn_2 := Nat.lt_of_lt_of_le hg_2 hbn.size
            refine hK.out _ _ hSn ?_
            clear hK K hS HBc hg_0 hg_1 hg_2
            try simp only [List.getElem_toArray, List.getElem_cons_succ, List.getElem_cons_zero, Act.put, List.setIfInBounds_toArray, List.set_cons_zero, List.set_cons_succ]
            have hS := hSn
            have HBc := HBn
            have hg_0 := hgn_0
            have hg_1 := hgn_1
            have hg_2 := hgn_2
            clear hSn HBn hbn hgn_0 hgn_1 hgn_2
            obtain ⟨wc, rfl⟩ : ∃ x : World, x = wn := ⟨_, rfl⟩
            refine HT.one (i := 17) (o := _) rfl (by kernel_rfl) (by decide) (by rfl) ?_
            intro K hK
            go_simp
            refine (RPLUS_any ng1 ng5 A1 A5 D1 D5 n1 c1 d1 e1 n5 c5 d5 e5 _ _ (by omega) (by omega) (by omega) (by omega) _ wc.heap.size (Nat.le_refl _) H1 H5).mono ?_
            rintro e wn ⟨ng6, A6, n6, c6, D6, d6, e6, rfl, hH6, k6, m6, hbn⟩
            have H6 := Lib.hid hH6
            clear hH6
            clear H1 H5
            replace HA := Lib.hid ((hbn.block g9 (blk_lt HA.out)).trans HA.out)
            have HBn := Lib.hid (HBc.out.trans (hbn.mono HBc.out.size))
            have hSn : wn.cell? ⟨g4, 0, none⟩ = some (.bool ngU) ∧ wn.cell? ⟨g4, 1, none⟩ = some (.slice AU nU cU) ∧ wn.cell? ⟨g4, 2, none⟩ = some (.slice DU dU eU) ∧ wn.cell? ⟨g5, 0, none⟩ = some (.bool ngV) ∧ wn.cell? ⟨g5, 1, none⟩ = some (.slice AV nV cV) ∧ wn.cell? ⟨g5, 2, none⟩ = some (.slice DV dV eV) ∧ wn.cell? ⟨bA, oA + k * 2, none⟩ = some (.int .i64 x) ∧ wn.cell? ⟨bA, oA + k * 2 + 1, none⟩ = some (.int .i64 y) := ⟨(hbn.cell (p := ⟨g4, 0, none⟩) hg_0).trans hS.1, (hbn.cell (p := ⟨g4, 1, none⟩) hg_0).trans hS.2.1, (hbn.cell (p := ⟨g4, 2, none⟩) hg_0).trans hS.2.2.1, (hbn.cell (p := ⟨g5, 0, none⟩) hg_1).trans hS.2.2.2.1, (hbn.cell (p := ⟨g5, 1, none⟩) hg_1).trans hS.2.2.2.2.1, (hbn.cell (p := ⟨g5, 2, none⟩) hg_1).trans hS.2.2.2.2.2.1, (hbn.cell (p := ⟨bA, oA + k * 2, none⟩) hg_2).trans hS.2.2.2.2.2.2.1, (hbn.cell (p := ⟨bA, oA + k * 2 + 1, none⟩) hg_2).trans hS.2.2.2.2.2.2.2⟩
            have hgn_0 := Nat.lt_of_lt_of_le hg_0 hbn.size
            have hgn_1 := Nat.lt_of_lt_of_le hg_1 hbn.size
            have hgn_2 := Nat.lt_of_lt_of_le hg_2 hbn.size
            refine hK.out _ _ hSn ?_
            clear hK K hS HBc hg_0 hg_1 hg_2
            try simp only [List.getElem_toArray, List.getElem_cons_succ, List.getElem_cons_zero, Act.put, List.setIfInBounds_toArray, List.set_cons_zero, List.set_cons_succ]
            have hS := hSn
            have HBc := HBn
            have hg_0 := hgn_0
            have hg_1 := hgn_1
            have hg_2 := hgn_2
            clear hSn HBn hbn hgn_0 hgn_1 hgn_2
            obtain ⟨wc, rfl⟩ : ∃ x : World, x = wn := ⟨_, rfl⟩
            obtain ⟨r0, r1, r2, f0, f1, f2⟩ := r3_cells HA.out
            refine HT.done (by kernel_rfl) ?_
            clear hS
            simp only [List.drop_succ_cons, List.drop_zero]
            have HQB := Lib.hid (RBox.store HA.out H6.out)
            have HBS := Lib.hid (box3_below (v0 := .bool ng6) (v1 := .slice A6 n6 c6) (v2 := .slice D6 d6 e6) HBc.out HGg9.out)
            go_wp2_with fail
            go_meet
            exact ⟨g9, rfl, HQB, HBS⟩
            -- H6 HA
        · intro K hK
          go_simp
          obtain ⟨wn, g9, hwn, hga9, hHA, hbn0, _⟩ := cell_new0 wc 43 #[.bool false, .slice none 0 0, .slice none 0 0]
          have hbn := hbn0.out
          have HGg9 : Hid (W.heap.size ≤ g9) := by show _ ≤ _; rw [hga9]; exact HBc.out.size
          rw [← hwn, ← hga9]
          have HA := hHA
          clear hwn hga9 hbn0 hHA
          replace HU := Lib.hid (HU.out.to hbn (Nat.le_refl _) hbn.size)
          replace HV := Lib.hid (HV.out.to hbn (Nat.le_refl _) hbn.size)
          replace HTB := Lib.hid (HTB.out.below hbn)
          have HBn := Lib.hid (HBc.out.trans (hbn.mono HBc.out.size))
          have hSn : wn.cell? ⟨g4, 0, none⟩ = some (.bool ngU) ∧ wn.cell? ⟨g4, 1, none⟩ = some (.slice AU nU cU) ∧ wn.cell? ⟨g4, 2, none⟩ = some (.slice DU dU eU) ∧ wn.cell? ⟨g5, 0, none⟩ = some (.bool ngV) ∧ wn.cell? ⟨g5, 1, none⟩ = some (.slice AV nV cV) ∧ wn.cell? ⟨g5, 2, none⟩ = some (.slice DV dV eV) ∧ wn.cell? ⟨bA, oA + k * 2, none⟩ = some (.int .i64 x) ∧ wn.cell? ⟨bA, oA + k * 2 + 1, none⟩ = some (.int .i64 y) := ⟨(hbn.cell (p := ⟨g4, 0, none⟩) hg_0).trans hS.1, (hbn.cell (p := ⟨g4, 1, none⟩) hg_0).trans hS.2.1, (hbn.cell (p := ⟨g4, 2, none⟩) hg_0).trans hS.2.2.1, (hbn.cell (p := ⟨g5, 0, none⟩) hg_1).trans hS.2.2.2.1, (hbn.cell (p := ⟨g5, 1, none⟩) hg_1).trans hS.2.2.2.2.1, (hbn.cell (p := ⟨g5, 2, none⟩) hg_1).trans hS.2.2.2.2.2.1, (hbn.cell (p := ⟨bA, oA + k * 2, none⟩) hg_2).trans hS.2.2.2.2.2.2.1, (hbn.cell (p := ⟨bA, oA + k * 2 + 1, none⟩) hg_2).trans hS.2.2.2.2.2.2.2⟩
          have hgn_0 := Nat.lt_of_lt_of_le hg_0 hbn.size
          have hgn_1 := Nat.lt_of_lt_of_le hg_1 hbn.size
          have hgn_2 := Nat.lt_of_lt_of_le hg_2 hbn.size
          refine hK.out _ _ hSn ?_
          clear hK K hS HBc hg_0 hg_1 hg_2
          try simp only [List.getElem_toArray, List.getElem_cons_succ, List.getElem_cons_zero, Act.put, List.setIfInBounds_toArray, List.set_cons_zero, List.set_cons_succ]
          have hS := hSn
          have HBc := HBn
          have hg_0 := hgn_0
          have hg_1 := hgn_1
          have hg_2 := hgn_2
          clear hSn HBn hbn hgn_0 hgn_1 hgn_2
          obtain ⟨wc, rfl⟩ : ∃ x : World, x = wn := ⟨_, rfl⟩
          refine HT.one (i := 5) (o := _) rfl (by kernel_rfl) (by decide) (by rfl) ?_
          intro K hK
          go_simp
          refine (RINT_any y (by omega) (by omega) _ HTB).mono ?_
          rintro e wn ⟨ng1, A1, n1, c1, D1, d1, e1, rfl, hH1, k1, m1, hbn⟩
          have H1 := Lib.hid hH1
          clear hH1
          replace HU := Lib.hid (HU.out.to hbn (Nat.le_refl _) hbn.size)
          replace HV := Lib.hid (HV.out.to hbn (Nat.le_refl _) hbn.size)
          replace HTB := Lib.hid (HTB.out.below hbn)
          replace HA := Lib.hid ((hbn.block g9 (blk_lt HA.out)).trans HA.out)
          have HBn := Lib.hid (HBc.out.trans (hbn.mono HBc.out.size))
          have hSn : wn.cell? ⟨g4, 0, none⟩ = some (.bool ngU) ∧ wn.cell? ⟨g4, 1, none⟩ = some (.slice AU nU cU) ∧ wn.cell? ⟨g4, 2, none⟩ = some (.slice DU dU eU) ∧ wn.cell? ⟨g5, 0, none⟩ = some (.bool ngV) ∧ wn.cell? ⟨g5, 1, none⟩ = some (.slice AV nV cV) ∧ wn.cell? ⟨g5, 2, none⟩ = some (.slice DV dV eV) ∧ wn.cell? ⟨bA, oA + k * 2, none⟩ = some (.int .i64 x) ∧ wn.cell? ⟨bA, oA + k * 2 + 1, none⟩ = some (.int .i64 y) := ⟨(hbn.cell (p := ⟨g4, 0, none⟩) hg_0).trans hS.1, (hbn.cell (p := ⟨g4, 1, none⟩) hg_0).trans hS.2.1, (hbn.cell (p := ⟨g4, 2, none⟩) hg_0).trans hS.2.2.1, (hbn.cell (p := ⟨g5, 0, none⟩) hg_1).trans hS.2.2.2.1, (hbn.cell (p := ⟨g5, 1, none⟩) hg_1).trans hS.2.2.2.2.1, (hbn.cell (p := ⟨g5, 2, none⟩) hg_1).trans hS.2.2.2.2.2.1, (hbn.cell (p := ⟨bA, oA + k * 2, none⟩) hg_2).trans hS.2.2.2.2.2.2.1, (hbn.cell (p := ⟨bA, oA + k * 2 + 1, none⟩) hg_2).trans hS.2.2.2.2.2.2.2⟩
          have hgn_0 := Nat.lt_of_lt_of_le hg_0 hbn.size
          have hgn_1 := Nat.lt_of_lt_of_le hg_1 hbn.size
          have hgn_2 := Nat.lt_of_lt_of_le hg_2 hbn.size
          refine hK.out _ _ hSn ?_
          clear hK K hS HBc hg_0 hg_1 hg_2
          try simp only [List.getElem_toArray, List.getElem_cons_succ, List.getElem_cons_zero, Act.put, List.setIfInBounds_toArray, List.set_cons_zero, List.set_cons_succ]
          have hS := hSn
          have HBc := HBn
          have hg_0 := hgn_0
          have hg_1 := hgn_1
          have hg_2 := hgn_2
          clear hSn HBn hbn hgn_0 hgn_1 hgn_2
          obtain ⟨wc, rfl⟩ : ∃ x : World, x = wn := ⟨_, rfl⟩
          refine HT.one (i := 12) (o := _) rfl (by kernel_rfl) (by decide) (by rfl) ?_
          intro K hK
          go_simp
          refine (RINT_any x (by omega) (by omega) _ HTB).mono ?_
          rintro e wn ⟨ng2, A2, n2, c2, D2, d2, e2, rfl, hH2, k2, m2, hbn⟩
          have H2 := Lib.hid hH2
          clear hH2
          clear HTB
          replace HU := Lib.hid (HU.out.to hbn (Nat.le_refl _) hbn.size)
          replace HV := Lib.hid (HV.out.to hbn (Nat.le_refl _) hbn.size)
          replace HA := Lib.hid ((hbn.block g9 (blk_lt HA.out)).trans HA.out)
          replace H1 := Lib.hid (H1.out.to hbn (Nat.le_refl _) hbn.size)
          have HBn := Lib.hid (HBc.out.trans (hbn.mono HBc.out.size))
          have hSn : wn.cell? ⟨g4, 0, none⟩ = some (.bool ngU) ∧ wn.cell? ⟨g4, 1, none⟩ = some (.slice AU nU cU) ∧ wn.cell? ⟨g4, 2, none⟩ = some (.slice DU dU eU) ∧ wn.cell? ⟨g5, 0, none⟩ = some (.bool ngV) ∧ wn.cell? ⟨g5, 1, none⟩ = some (.slice AV nV cV) ∧ wn.cell? ⟨g5, 2, none⟩ = some (.slice DV dV eV) ∧ wn.cell? ⟨bA, oA + k * 2, none⟩ = some (.int .i64 x) ∧ wn.cell? ⟨bA, oA + k * 2 + 1, none⟩ = some (.int .i64 y) := ⟨(hbn.cell (p := ⟨g4, 0, none⟩) hg_0).trans hS.1, (hbn.cell (p := ⟨g4, 1, none⟩) hg_0).trans hS.2.1, (hbn.cell (p := ⟨g4, 2, none⟩) hg_0).trans hS.2.2.1, (hbn.cell (p := ⟨g5, 0, none⟩) hg_1).trans hS.2.2.2.1, (hbn.cell (p := ⟨g5, 1, none⟩) hg_1).trans hS.2.2.2.2.1, (hbn.cell (p := ⟨g5, 2, none⟩) hg_1).trans hS.2.2.2.2.2.1, (hbn.cell (p := ⟨bA, oA + k * 2, none⟩) hg_2).trans hS.2.2.2.2.2.2.1, (hbn.cell (p := ⟨bA, oA + k * 2 + 1, none⟩) hg_2).trans hS.2.2.2.2.2.2.2⟩
          have hgn_0 := Nat.lt_of_lt_of_le hg_0 hbn.size
          have hgn_1 := Nat.lt_of_lt_of_le hg_1 hbn.size
          have hgn_2 := Nat.lt_of_lt_of_le hg_2 hbn.size
          refine hK.out _ _ hSn ?_
          clear hK K hS HBc hg_0 hg_1 hg_2
          try simp only [List.getElem_toArray, List.getElem_cons_succ, List.getElem_cons_zero, Act.put, List.setIfInBounds_toArray, List.set_cons_zero, List.set_cons_succ]
          have hS := hSn
          have HBc := HBn
          have hg_0 := hgn_0
          have hg_1 := hgn_1
          have hg_2 := hgn_2
          clear hSn HBn hbn hgn_0 hgn_1 hgn_2
          obtain ⟨wc, rfl⟩ : ∃ x : World, x = wn := ⟨_, rfl⟩
          refine HT.one (i := 13) (o := _) rfl (by kernel_rfl) (by decide) (by rfl) ?_
          intro K hK
          go_simp
          refine (RNTIMES_any ngU ng2 AU A2 DU D2 nU cU dU eU n2 c2 d2 e2 _ _ (by omega) (by omega) (by omega) (by omega) _ wc.heap.size (Nat.le_refl _) HU H2).mono ?_
          rintro e wn ⟨ng3, A3, n3, c3, D3, d3, e3, rfl, hH3, k3, m3, hbn⟩
          have H3 := Lib.hid hH3
          clear hH3
          clear HU H2
          replace HV := Lib.hid (HV.out.to hbn (Nat.le_refl _) hbn.size)
          replace HA := Lib.hid ((hbn.block g9 (blk_lt HA.out)).trans HA.out)
          replace H1 := Lib.hid (H1.out.to hbn (Nat.le_refl _) hbn.size)
          have HBn := Lib.hid (HBc.out.trans (hbn.mono HBc.out.size))
          have hSn : wn.cell? ⟨g4, 0, none⟩ = some (.bool ngU) ∧ wn.cell? ⟨g4, 1, none⟩ = some (.slice AU nU cU) ∧ wn.cell? ⟨g4, 2, none⟩ = some (.slice DU dU eU) ∧ wn.cell? ⟨g5, 0, none⟩ = some (.bool ngV) ∧ wn.cell? ⟨g5, 1, none⟩ = some (.slice AV nV cV) ∧ wn.cell? ⟨g5, 2, none⟩ = some (.slice DV dV eV) ∧ wn.cell? ⟨bA, oA + k * 2, none⟩ = some (.int .i64 x) ∧ wn.cell? ⟨bA, oA + k * 2 + 1, none⟩ = some (.int .i64 y) := ⟨(hbn.cell (p := ⟨g4, 0, none⟩) hg_0).trans hS.1, (hbn.cell (p := ⟨g4, 1, none⟩) hg_0).trans hS.2.1, (hbn.cell (p := ⟨g4, 2, none⟩) hg_0).trans hS.2.2.1, (hbn.cell (p := ⟨g5, 0, none⟩) hg_1).trans hS.2.2.2.1, (hbn.cell (p := ⟨g5, 1, none⟩) hg_1).trans hS.2.2.2.2.1, (hbn.cell (p := ⟨g5, 2, none⟩) hg_1).trans hS.2.2.2.2.2.1, (hbn.cell (p := ⟨bA, oA + k * 2, none⟩) hg_2).trans hS.2.2.2.2.2.2.1, (hbn.cell (p := ⟨bA, oA + k * 2 + 1, none⟩) hg_2).trans hS.2.2.2.2.2.2.2⟩
          have hgn_0 := Nat.lt_of_lt_of_le hg_0 hbn.size
          have hgn_1 := Nat.lt_of_lt_of_le hg_1 hbn.size
          have hgn_2 := Nat.lt_of_lt_of_le hg_2 hbn.size
          refine hK.out _ _ hSn ?_
          clear hK K hS HBc hg_0 hg_1 hg_2
          try simp only [List.getElem_toArray, List.getElem_cons_succ, List.getElem_cons_zero, Act.put, List.setIfInBounds_toArray, List.set_cons_zero, List.set_cons_succ]
          have hS := hSn
          have HBc := HBn
          have hg_0 := hgn_0
          have hg_1 := hgn_1
          have hg_2 := hgn_2
          clear hSn HBn hbn hgn_0 hgn_1 hgn_2
          obtain ⟨wc, rfl⟩ : ∃ x : World, x = wn := ⟨_, rfl⟩
          refine HT.one (i := 15) (o := _) rfl (by kernel_rfl) (by decide) (by rfl) ?_
          intro K hK
          go_simp
          refine (RPLUS_any ng3 ngV A3 AV D3 DV n3 c3 d3 e3 nV cV dV eV _ _ (by omega) (by omega) (by omega) (by omega) _ wc.heap.size (Nat.le_refl _) H3 HV).mono ?_
          rintro e wn ⟨ng4, A4, n4, c4, D4, d4, e4, rfl, hH4, k4, m4, hbn⟩
          have H4 := Lib.hid hH4
          clear hH4
          clear HV H3
          replace HA := Lib.hid ((hbn.block g9 (blk_lt HA.out)).trans HA.out)
          replace H1 := Lib.hid (H1.out.to hbn (Nat.le_refl _) hbn.size)
          have HBn := Lib.hid (HBc.out.trans (hbn.mono HBc.out.size))
          have hSn : wn.cell? ⟨g4, 0, none⟩ = some (.bool ngU) ∧ wn.cell? ⟨g4, 1, none⟩ = some (.slice AU nU cU) ∧ wn.cell? ⟨g4, 2, none⟩ = some (.slice DU dU eU) ∧ wn.cell? ⟨g5, 0, none⟩ = some (.bool ngV) ∧ wn.cell? ⟨g5, 1, none⟩ = some (.slice AV nV cV) ∧ wn.cell? ⟨g5, 2, none⟩ = some (.slice DV dV eV) ∧ wn.cell? ⟨bA, oA + k * 2, none⟩ = some (.int .i64 x) ∧ wn.cell? ⟨bA, oA + k * 2 + 1, none⟩ = some (.int .i64 y) := ⟨(hbn.cell (p := ⟨g4, 0, none⟩) hg_0).trans hS.1, (hbn.cell (p := ⟨g4, 1, none⟩) hg_0).trans hS.2.1, (hbn.cell (p := ⟨g4, 2, none⟩) hg_0).trans hS.2.2.1, (hbn.cell (p := ⟨g5, 0, none⟩) hg_1).trans hS.2.2.2.1, (hbn.cell (p := ⟨g5, 1, none⟩) hg_1).trans hS.2.2.2.2.1, (hbn.cell (p := ⟨g5, 2, none⟩) hg_1).trans hS.2.2.2.2.2.1, (hbn.cell (p := ⟨bA, oA + k * 2, none⟩) hg_2).trans hS.2.2.2.2.2.2.1, (hbn.cell (p := ⟨bA, oA + k * 2 + 1, none⟩) hg_2).trans hS.2.2.2.2.2.2.2⟩
          have hgn_0 := Nat.lt_of_lt_of_le hg_0 hbn.size
          have hgn_1 := Nat.lt_of_lt_of_le hg_1 hbn.size
          have hgn_2 := Nat.lt_of_lt_of_le hg_2 hbn.size
          refine hK.out _ _ hSn ?_
          clear hK K hS HBc hg_0 hg_1 hg_2
          try simp only [List.getElem_toArray, List.getElem_cons_succ, List.getElem_cons_zero, Act.put, List.setIfInBounds_toArray, List.set_cons_zero, List.set_cons_succ]
          have hS := hSn
          have HBc := HBn
          have hg_0 := hgn_0
          have hg_1 := hgn_1
          have hg_2 := hgn_2
          clear hSn HBn hbn hgn_0 hgn_1 hgn_2
          obtain ⟨wc, rfl⟩ : ∃ x : World, x = wn := ⟨_, rfl⟩
          refine HT.one (i := 16) (o := _) rfl (by kernel_rfl) (by decide) (by rfl) ?_
          intro K hK
          go_simp
          refine (RMINUS_any ng4 A4 D4 n4 c4 d4 e4 _ _ wc.heap.size (Nat.le_refl _) H4).mono ?_
          rintro e wn ⟨ng5, A5, n5, c5, D5, d5, e5, rfl, hH5, k5, m5, hbn⟩
          have H5 := Lib.hid hH5
          clear hH5
          clear H4
          replace HA := Lib.hid ((hbn.block g9 (blk_lt HA.out)).trans HA.out)
          replace H1 := Lib.hid (H1.out.to hbn (Nat.le_refl _) hbn.size)
          have HBn := Lib.hid (HBc.out.trans (hbn.mono HBc.out.size))
          have hSn : wn.cell? ⟨g4, 0, none⟩ = some (.bool ngU) ∧ wn.cell? ⟨g4, 1, none⟩ = some (.slice AU nU cU) ∧ wn.cell? ⟨g4, 2, none⟩ = some (.slice DU dU eU) ∧ wn.cell? ⟨g5, 0, none⟩ = some (.bool ngV) ∧ wn.cell? ⟨g5, 1, none⟩ = some (.slice AV nV cV) ∧ wn.cell? ⟨g5, 2, none⟩ = some (.slice DV dV eV) ∧ wn.cell? ⟨bA, oA + k * 2, none⟩ = some (.int .i64 x) ∧ wn.cell? ⟨bA, oA + k * 2 + 1, none⟩ = some (.int .i64 y) := ⟨(hbn.cell (p := ⟨g4, 0, none⟩) hg_0).trans hS.1, (hbn.cell (p := ⟨g4, 1, none⟩) hg_0).trans hS.2.1, (hbn.cell (p := ⟨g4, 2, none⟩) hg_0).trans hS.2.2.1, (hbn.cell (p := ⟨g5, 0, none⟩) hg_1).trans hS.2.2.2.1, (hbn.cell (p := ⟨g5, 1, none⟩) hg_1).trans hS.2.2.2.2.1, (hbn.cell (p := ⟨g5, 2, none⟩) hg_1).trans hS.2.2.2.2.2.1, (hbn.cell (p := ⟨bA, oA + k * 2, none⟩) hg_2).trans hS.2.2.2.2.2.2.1, (hbn.cell (p := ⟨bA, oA + k * 2 + 1, none⟩) hg_2).trans hS.2.2.2.2.2.2.2⟩
          have hgn_0 := Nat.lt_of_lt_of_le hg_0 hbn.size
          have hgn_1 := Nat.lt_of_lt_of_le hg_1 hbn.size
          have hgn_2 := Nat.lt_of_lt_of_le hg_2 hbn.size
          refine hK.out _ _ hSn ?_
          clear hK K hS HBc hg_0 hg_1 hg_2
          try simp only [List.getElem_toArray, List.getElem_cons_succ, List.getElem_cons_zero, Act.put, List.setIfInBounds_toArray, List.set_cons_zero, List.set_cons_succ]
          have hS := hSn
          have HBc := HBn
          have hg_0 := hgn_0
          have hg_1 := hgn_1
          have hg_2 := hgn_2
          clear hSn HBn hbn hgn_0 hgn_1 hgn_2
          obtain ⟨wc, rfl⟩ : ∃ x : World, x = wn := ⟨_, rfl⟩
          refine HT.one (i := 17) (o := _) rfl (by kernel_rfl) (by decide) (by rfl) ?_
          intro K hK
          go_simp
          refine (RPLUS_any ng1 ng5 A1 A5 D1 D5 n1 c1 d1 e1 n5 c5 d5 e5 _ _ (by omega) (by omega) (by omega) (by omega) _ wc.heap.size (Nat.le_refl _) H1 H5).mono ?_
          rintro e wn ⟨ng6, A6, n6, c6, D6, d6, e6, rfl, hH6, k6, m6, hbn⟩
          have H6 := Lib.hid hH6
          clear hH6
          clear H1 H5
          replace HA := Lib.hid ((hbn.block g9 (blk_lt HA.out)).trans HA.out)
          have HBn := Lib.hid (HBc.out.trans (hbn.mono HBc.out.size))
          have hSn : wn.cell? ⟨g4, 0, none⟩ = some (.bool ngU) ∧ wn.cell? ⟨g4, 1, none⟩ = some (.slice AU nU cU) ∧ wn.cell? ⟨g4, 2, none⟩ = some (.slice DU dU eU) ∧ wn.cell? ⟨g5, 0, none⟩ = some (.bool ngV) ∧ wn.cell? ⟨g5, 1, none⟩ = some (.slice AV nV cV) ∧ wn.cell? ⟨g5, 2, none⟩ = some (.slice DV dV eV) ∧ wn.cell? ⟨bA, oA + k * 2, none⟩ = some (.int .i64 x) ∧ wn.cell? ⟨bA, oA + k * 2 + 1, none⟩ = some (.int .i64 y) := ⟨(hbn.cell (p := ⟨g4, 0, none⟩) hg_0).trans hS.1, (hbn.cell (p := ⟨g4, 1, none⟩) hg_0).trans hS.2.1, (hbn.cell (p := ⟨g4, 2, none⟩) hg_0).trans hS.2.2.1, (hbn.cell (p := ⟨g5, 0, none⟩) hg_1).trans hS.2.2.2.1, (hbn.cell (p := ⟨g5, 1, none⟩) hg_1).trans hS.2.2.2.2.1, (hbn.cell (p := ⟨g5, 2, none⟩) hg_1).trans hS.2.2.2.2.2.1, (hbn.cell (p := ⟨bA, oA + k * 2, none⟩) hg_2).trans hS.2.2.2.2.2.2.1, (hbn.cell (p := ⟨bA, oA + k * 2 + 1, none⟩) hg_2).trans hS.2.2.2.2.2.2.2⟩
          have hgn_0 := Nat.lt_of_lt_of_le hg_0 hbn.size
          have hgn_1 := Nat.lt_of_lt_of_le hg_1 hbn.size
          have hgn_2 := Nat.lt_of_lt_of_le hg_2 hbn.size
          refine hK.out _ _ hSn ?_
          clear hK K hS HBc hg_0 hg_1 hg_2
          try simp only [List.getElem_toArray, List.getElem_cons_succ, List.getElem_cons_zero, Act.put, List.setIfInBounds_toArray, List.set_cons_zero, List.set_cons_succ]
          have hS := hSn
          have HBc := HBn
          have hg_0 := hgn_0
          have hg_1 := hgn_1
          have hg_2 := hgn_2
          clear hSn HBn hbn hgn_0 hgn_1 hgn_2
          obtain ⟨wc, rfl⟩ : ∃ x : World, x = wn := ⟨_, rfl⟩
          obtain ⟨r0, r1, r2, f0, f1, f2⟩ := r3_cells HA.out
          refine HT.done (by kernel_rfl) ?_
          clear hS
          simp only [List.drop_succ_cons, List.drop_zero]
          have HQB := Lib.hid (RBox.store HA.out H6.out)
          have HBS := Lib.hid (box3_below (v0 := .bool ng6) (v1 := .slice A6 n6 c6) (v2 := .slice D6 d6 e6) HBc.out HGg9.out)
          go_wp2_with fail
          go_meet
          exact ⟨g9, rfl, HQB, HBS⟩
          -- H6 HA
      case rest =>
      obtain ⟨g9, rfl, IX, HBX9⟩ := hcut
      obtain ⟨W', rfl⟩ : ∃ x : World, x = wc := ⟨_, rfl⟩
      have hs9 := HBX9.out.size
      replace IS := Lib.hid (IS.out.below HBX9.out)
      replace IU := Lib.hid (IU.out.below HBX9.out)
      replace IV := Lib.hid (IV.out.below HBX9.out)
      replace I6 : Hid (W'.heap[g6]? = some (.cells #[.bool false, .slice none 0 0, .slice none 0 0] 43 (0, 0))) := (HBX9.out.block g6 (blk_lt I6.out)).trans I6.out
      replace HBA := Lib.hid (HBA.out.trans (HBX9.out.mono HBA.out.size))
      clear HBX9 k1 k2 hbAw hsw HTB
      obtain ⟨W, rfl⟩ : ∃ x : World, x = W' := ⟨_, rfl⟩
      obtain ⟨ngS, AS, nS, cS, DS, dS, eS, bS, hS9⟩ := IS.out
      obtain ⟨ngX, AX, nX, cX, DX, dX, eX, bX, hX⟩ := IX.out
      have HBS := Lib.hid bS
      have HBX := Lib.hid bX
      have HS0 := Lib.hid hS9
      have HX := Lib.hid hX
      obtain ⟨jS, jS'⟩ := numR_le hS9 (HSM.out k hkk)
      obtain ⟨jX, jX'⟩ := numR_le hX (HSX.out x y rg1 rg2 rg3 rg4)
      obtain ⟨qS0, qS1, qS2, _, _, _⟩ := r3_cells bS
      obtain ⟨qX0, qX1, qX2, _, _, _⟩ := r3_cells bX
      clear bS bX hS9 hX IS IX
      go_upto_region 6 with (fail)
      refine wp_region_text 5 (fun x9 => x9.cell? ⟨g7, 0, none⟩ = some (.bool ngS) ∧ x9.cell? ⟨g7, 1, none⟩ = some (.slice AS nS cS) ∧ x9.cell? ⟨g7, 2, none⟩ = some (.slice DS dS eS) ∧ x9.cell? ⟨g9, 0, none⟩ = some (.bool ngX) ∧ x9.cell? ⟨g9, 1, none⟩ = some (.slice AX nX cX) ∧ x9.cell? ⟨g9, 2, none⟩ = some (.slice DX dX eX)) (by kernel_rfl) (by kernel_rfl) ?_
      obtain ⟨wc, hwc⟩ : ∃ x : World, x = W.drew := ⟨_, rfl⟩
      have hbn : Below W.heap.size W W.drew := (Below.refl _ _).drew
      have HS0 := Lib.hid (HS0.out.to hbn (Nat.le_refl _) hbn.size)
      have HX := Lib.hid (HX.out.to hbn (Nat.le_refl _) hbn.size)
      clear hbn
      have HBc : Hid (Below W.heap.size W wc) := by show Below _ _ _; rw [hwc]; exact (Below.refl _ _).drew
      have hS : wc.cell? ⟨g7, 0, none⟩ = some (.bool ngS) ∧ wc.cell? ⟨g7, 1, none⟩ = some (.slice AS nS cS) ∧ wc.cell? ⟨g7, 2, none⟩ = some (.slice DS dS eS) ∧ wc.cell? ⟨g9, 0, none⟩ = some (.bool ngX) ∧ wc.cell? ⟨g9, 1, none⟩ = some (.slice AX nX cX) ∧ wc.cell? ⟨g9, 2, none⟩ = some (.slice DX dX eX) := by rw [hwc]; exact ⟨qS0, qS1, qS2, qX0, qX1, qX2⟩
      have hg_0 : g7 < wc.heap.size := by rw [hwc]; exact blk_lt HBS.out
      have hg_1 : g9 < wc.heap.size := by rw [hwc]; exact blk_lt HBX.out
      rw [← hwc] at HS0 HX
      rw [← hwc]
      clear hwc
      refine HT.load (i := 0) (oi := _) (v := ?_) rfl (by kernel_rfl) (by kernel_rfl) (by decide) (fun _ _ _ h => h) (by kernel_rfl) (Or.inl ⟨by rfl, ?_⟩) hS ?_
      rotate_left
      · intro wz hwz
        try dsimp only at hwz
        go_simp
        try with_reducible rfl
      simp only [List.getElem_toArray, List.getElem_cons_succ, List.getElem_cons_zero, Act.put, List.setIfInBounds_toArray, List.set_cons_zero, List.set_cons_succ]
      refine HT.load (i := 1) (oi := _) (v := ?_) rfl (by kernel_rfl) (by kernel_rfl) (by decide) (fun _ _ _ h => h) (by kernel_rfl) (Or.inl ⟨by rfl, ?_⟩) hS ?_
      rotate_left
      · intro wz hwz
        try dsimp only at hwz
        go_simp
        try with_reducible rfl
      simp only [List.getElem_toArray, List.getElem_cons_succ, List.getElem_cons_zero, Act.put, List.setIfInBounds_toArray, List.set_cons_zero, List.set_cons_succ]
      refine HT.load (i := 2) (oi := _) (v := ?_) rfl (by kernel_rfl) (by kernel_rfl) (by decide) (fun _ _ _ h => h) (by kernel_rfl) (Or.inl ⟨by rfl, ?_⟩) hS ?_
      rotate_left
      · intro wz hwz
        try dsimp only at hwz
        go_simp
        try with_reducible rfl
      simp only [List.getElem_toArray, List.getElem_cons_succ, List.getElem_cons_zero, Act.put, List.setIfInBounds_toArray, List.set_cons_zero, List.set_cons_succ]
      refine HT.one (i := 3) (o := _) rfl (by kernel_rfl) (by decide) (by rfl) ?_
      intro K hK
      go_simp
      refine (RNTIMES_any ngX ngX AX AX DX DX nX cX dX eX nX cX dX eX _ _ (by omega) (by omega) (by omega) (by omega) _ wc.heap.size (Nat.le_refl _) HX HX).mono ?_
      rintro e wn ⟨ng1, A1, n1, c1, D1, d1, e1, rfl, hH1, k1, m1, hbn⟩
      have H1 := Lib.hid hH1
      clear hH1
      clear HX
      replace HS0 := Lib.hid (HS0.out.to hbn (Nat.le_refl _) hbn.size)
      have HBn := Lib.hid (HBc.out.trans (hbn.mono HBc.out.size))
      have hSn : wn.cell? ⟨g7, 0, none⟩ = some (.bool ngS) ∧ wn.cell? ⟨g7, 1, none⟩ = some (.slice AS nS cS) ∧ wn.cell? ⟨g7, 2, none⟩ = some (.slice DS dS eS) ∧ wn.cell? ⟨g9, 0, none⟩ = some (.bool ngX) ∧ wn.cell? ⟨g9, 1, none⟩ = some (.slice AX nX cX) ∧ wn.cell? ⟨g9, 2, none⟩ = some (.slice DX dX eX) := ⟨(hbn.cell (p := ⟨g7, 0, none⟩) hg_0).trans hS.1, (hbn.cell (p := ⟨g7, 1, none⟩) hg_0).trans hS.2.1, (hbn.cell (p := ⟨g7, 2, none⟩) hg_0).trans hS.2.2.1, (hbn.cell (p := ⟨g9, 0, none⟩) hg_1).trans hS.2.2.2.1, (hbn.cell (p := ⟨g9, 1, none⟩) hg_1).trans hS.2.2.2.2.1, (hbn.cell (p := ⟨g9, 2, none⟩) hg_1).trans hS.2.2.2.2.2⟩
      have hgn_0 := Nat.lt_of_lt_of_le hg_0 hbn.size
      have hgn_1 := Nat.lt_of_lt_of_le hg_1 hbn.size
      refine hK.out _ _ hSn ?_
      clear hK K hS HBc hg_0 hg_1
      try simp only [List.getElem_toArray, List.getElem_cons_succ, List.getElem_cons_zero, Act.put, List.setIfInBounds_toArray, List.set_cons_zero, List.set_cons_succ]
      have hS := hSn
      have HBc := HBn
      have hg_0 := hgn_0
      have hg_1 := hgn_1
      clear hSn HBn hbn hgn_0 hgn_1
      obtain ⟨wc, rfl⟩ : ∃ x : World, x = wn := ⟨_, rfl⟩
      refine HT.one (i := 4) (o := _) rfl (by kernel_rfl) (by decide) (by rfl) ?_
      intro K hK
      go_simp
      refine (RPLUS_any ngS ng1 AS A1 DS D1 nS cS dS eS n1 c1 d1 e1 _ _ (by omega) (by omega) (by omega) (by omega) _ wc.heap.size (Nat.le_refl _) HS0 H1).mono ?_
      rintro e wn ⟨ng2, A2, n2, c2, D2, d2, e2, rfl, hH2, k2, m2, hbn⟩
      have H2 := Lib.hid hH2
      clear hH2
      clear HS0 H1
      have HBn := Lib.hid (HBc.out.trans (hbn.mono HBc.out.size))
      have hSn : wn.cell? ⟨g7, 0, none⟩ = some (.bool ngS) ∧ wn.cell? ⟨g7, 1, none⟩ = some (.slice AS nS cS) ∧ wn.cell? ⟨g7, 2, none⟩ = some (.slice DS dS eS) ∧ wn.cell? ⟨g9, 0, none⟩ = some (.bool ngX) ∧ wn.cell? ⟨g9, 1, none⟩ = some (.slice AX nX cX) ∧ wn.cell? ⟨g9, 2, none⟩ = some (.slice DX dX eX) := ⟨(hbn.cell (p := ⟨g7, 0, none⟩) hg_0).trans hS.1, (hbn.cell (p := ⟨g7, 1, none⟩) hg_0).trans hS.2.1, (hbn.cell (p := ⟨g7, 2, none⟩) hg_0).trans hS.2.2.1, (hbn.cell (p := ⟨g9, 0, none⟩) hg_1).trans hS.2.2.2.1, (hbn.cell (p := ⟨g9, 1, none⟩) hg_1).trans hS.2.2.2.2.1, (hbn.cell (p := ⟨g9, 2, none⟩) hg_1).trans hS.2.2.2.2.2⟩
      have hgn_0 := Nat.lt_of_lt_of_le hg_0 hbn.size
      have hgn_1 := Nat.lt_of_lt_of_le hg_1 hbn.size
      refine hK.out _ _ hSn ?_
      clear hK K hS HBc hg_0 hg_1
      try simp only [List.getElem_toArray, List.getElem_cons_succ, List.getElem_cons_zero, Act.put, List.setIfInBounds_toArray, List.set_cons_zero, List.set_cons_succ]
      have hS := hSn
      have HBc := HBn
      have hg_0 := hgn_0
      have hg_1 := hgn_1
      clear hSn HBn hbn hgn_0 hgn_1
      obtain ⟨wc, rfl⟩ : ∃ x : World, x = wn := ⟨_, rfl⟩
      have HSV := Lib.hid ((HBc.out.block g7 (blk_lt HBS.out)).trans HBS.out)
      obtain ⟨r0, r1, r2, f0, f1, f2⟩ := r3_cells HSV.out
      refine HT.done (by kernel_rfl) ?_
      clear hS
      simp only [List.drop_succ_cons, List.drop_zero]
      obtain ⟨Z, hZ⟩ : ∃ Z, Z = ((wc.setCell ⟨g7, 0, none⟩ (.bool ng2)).setCell ⟨g7, 1, none⟩ (.slice A2 n2 c2)).setCell ⟨g7, 2, none⟩ (.slice D2 d2 e2) := ⟨_, rfl⟩
      have HTZ : TyAt 43 wc g7 := ⟨_, _, HSV.out⟩
      have B7 := Lib.hid (RBox.store HSV.out H2.out)
      have B4 := Lib.hid ((IU.out.below HBc.out).far HTZ (by omega) (.bool ng2) (.slice A2 n2 c2) (.slice D2 d2 e2))
      have B5 := Lib.hid ((IV.out.below HBc.out).far HTZ (by omega) (.bool ng2) (.slice A2 n2 c2) (.slice D2 d2 e2))
      have B6 : Hid (Z.heap[g6]? = some (.cells #[.bool false, .slice none 0 0, .slice none 0 0] 43 (0, 0))) := by
        show _ = _
        rw [hZ]
        exact box_far (box_far (box_far ((HBc.out.block g6 (blk_lt I6.out)).trans I6.out) (by omega) 0 _) (by omega) 1 _) (by omega) 2 _
      have BZ : Hid (Below w.heap.size w Z) := by show Below _ _ _; rw [hZ]; exact box3_below (HBA.out.trans (HBc.out.mono HBA.out.size)) hg7
      rw [← hZ] at B7 B4 B5
      go_wp2_with fail
      rw [← hZ]
      go_roundw
      case rel => exact ⟨k + 1, by omega, by go_num, by rw [HSQ.out]; exact B7, B4, B5, B6, BZ⟩
      case measure => simp [intOf]; omega
      -- H2
    · obtain rfl : k = n := by omega
      go_wp2_with fail
      go_meet
      exact ⟨IS, I6, HBA⟩
end Go.Proofs.YthgjgiccoobcgaaDoor
