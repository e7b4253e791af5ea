/- Clip, at (the document's); the clipper's at (the sound's). -/
import Derived.Test.YtnhmhjhfoonakaaGreatDoorWb
import Derived.Test.YtnhmhjhfoonakaaGreatDoorWa
import Derived.OneCell
import Derived.Test.YtnhmhjhfoonakaaGreatDoorYi
import Derived.Test.YtnhmhjhfoonakaaGreatDoorYj
import Derived.Test.YtnhmhjhfoonakaaGreatDoorWc
set_option linter.unusedSimpArgs false
set_option linter.unusedVariables false
namespace Go.Proofs.YtnhmhjhfoonakaaGreatDoor
open Go.RowKit Go.Dw
set_option maxHeartbeats 400000 in
theorem RCLIP_any (x : Int) (w : World) : Calls Tryz.prog 58 #[.int .i64 x] w fun e w' => e = .returned (.tuple #[.int .i64 (clipV x), .int .i64 (clipN x)]) ∧ w = w' := by
  by_cases h1 : 8388607 < x
  · have e1 : Hid (clipV x = 8388607 ∧ clipN x = 1) := ⟨if_pos h1, if_pos h1⟩
    go_enter Tryz.func58, Tryz.ntmps58
    go_wp2
    go_ret2
    exact ⟨by rw [e1.out.1, e1.out.2]; rfl, rfl⟩
  · by_cases h2 : x < -8388608
    · have e1 : Hid (clipV x = -8388608 ∧ clipN x = 1) := by constructor <;> (first | unfold clipV | unfold clipN) <;> rw [if_neg h1, if_pos h2]
      go_enter Tryz.func58, Tryz.ntmps58
      go_wp2
      go_ret2
      exact ⟨by rw [e1.out.1, e1.out.2]; rfl, rfl⟩
    · have e1 : Hid (clipV x = x ∧ clipN x = 0) := by constructor <;> (first | unfold clipV | unfold clipN) <;> rw [if_neg h1, if_neg h2]
      go_enter Tryz.func58, Tryz.ntmps58
      go_wp2
      go_ret2
      exact ⟨by rw [e1.out.1, e1.out.2]; rfl, rfl⟩
end Go.Proofs.YtnhmhjhfoonakaaGreatDoor

/- The clipper's at. -/
set_option linter.unusedSimpArgs false
set_option linter.unusedVariables false
namespace Go.Proofs.YtnhmhjhfoonakaaGreatDoor
open Go.RowKit Go.Dw
set_option maxHeartbeats 400000 in
theorem CLIPAT_any (x c : Int) (g : Nat) (hc0 : 0 ≤ c) (hc1 : c ≤ 1000000000) (w : World) (h : Hid (w.heap[g]? = some (.cells #[.int .i64 c] 65 (0, 0)))) :
    Calls Tryz.prog 72 #[.pointer (some ⟨g, 0, none⟩), .int .i64 x] w fun e w' => e = .returned (.int .i64 (clipV x)) ∧ w'.heap[g]? = some (.cells #[.int .i64 (c + clipN x)] 65 (0, 0)) ∧ w.grownBy w' (some g) := by
  have hg : ∀ u : Value, w.grownBy (w.setCell ⟨g, 0, none⟩ u) (some g) := fun u => ⟨rfl, rfl, rfl, by simp [World.setCell], fun i hi hne => Below.heap_setCell _ _ _ _ (by simpa using fun e => hne (by rw [e]))⟩
  have HG := Lib.hid hg
  have hcell := cell_of_one h.out
  have hfz := free_of_one h.out
  clear hg
  by_cases h1 : 8388607 < x
  · have e1 : Hid (clipV x = 8388607 ∧ clipN x = 1) := ⟨if_pos h1, if_pos h1⟩
    go_enter Tryz.func72, Tryz.ntmps72
    go_wp2
    go_ret
    exact ⟨by rw [e1.out.1]; rfl, by rw [e1.out.2]; exact one_setCell h.out, HG.out _⟩
  · by_cases h2 : x < -8388608
    · have e1 : Hid (clipV x = -8388608 ∧ clipN x = 1) := by constructor <;> (first | unfold clipV | unfold clipN) <;> rw [if_neg h1, if_pos h2]
      go_enter Tryz.func72, Tryz.ntmps72
      go_wp2
      go_ret
      exact ⟨by rw [e1.out.1]; rfl, by rw [e1.out.2]; exact one_setCell h.out, HG.out _⟩
    · have e1 : Hid (clipV x = x ∧ clipN x = 0) := by constructor <;> (first | unfold clipV | unfold clipN) <;> rw [if_neg h1, if_neg h2]
      go_enter Tryz.func72, Tryz.ntmps72
      go_wp2
      go_ret
      exact ⟨by rw [e1.out.1]; rfl, by rw [e1.out.2, Int.add_zero]; exact h.out, World.grownBy.refl _ _⟩
end Go.Proofs.YtnhmhjhfoonakaaGreatDoor

/- num.Rat.Near and Sign of a ratio that is not in lowest terms. -/
set_option linter.unusedSimpArgs false
set_option linter.unusedVariables false
namespace Go.Proofs.YtnhmhjhfoonakaaGreatDoor
open Go.RowKit Go.Dw
def nearR (z : Int) (y : Nat) : Int := if z < 0 then -(((z.natAbs * 2 + y) / (y * 2) : Nat) : Int) else (((z.natAbs * 2 + y) / (y * 2) : Nat) : Int)
theorem nearR_q (q : Rat) : nearR q.num q.den = nearQ q := rfl
theorem RawAt.to {w w' : World} {B B' : Nat} {neg : Bool} {A A' : Option Addr} {n c n' c' x : Nat} {z : Int} (h : RawAt w B neg A n c A' n' c' z x) (hb : Below B' w w') (hB : B ≤ B') (hC : B ≤ w'.heap.size) : RawAt w' w'.heap.size neg A n c A' n' c' z x := ⟨h.1.to hb hB hC, h.2.to hb hB hC⟩
theorem RawAt.below {w w' : World} {B B' : Nat} {neg : Bool} {A A' : Option Addr} {n c n' c' x : Nat} {z : Int} (h : RawAt w B neg A n c A' n' c' z x) (hb : Below B' w w') (hB : B ≤ B') : RawAt w' B neg A n c A' n' c' z x := ⟨h.1.below hb hB, h.2.below hb hB⟩
set_option maxRecDepth 100000 in
set_option maxHeartbeats 4000000 in
theorem QNEAR_raw (neg : Bool) (A D : Option Addr) (n c m d : Nat) (z : Int) (y : Nat) (hy : 0 < y) (hn : n ≤ 10000000) (hm : m ≤ 10000000) (w : World) (B : Nat) (hB : B ≤ w.heap.size) (hh : Hid (RawAt w B neg A n c D m d z y)) :
    Calls Tryz.prog 70 #[.agg #[.bool neg, .slice A n c, .slice D m d]] w (OutI w (nearR z y) (max (n + 1) m + 1)) := by
  obtain ⟨W0, gx, hW, hgx, HHW, HBW, HSW⟩ := boxes2 w (.cells #[.bool neg, .slice A n c, .slice D m d] 48) (.cells #[.bool false, .slice none 0 0] 46)
  have HGX := Lib.hid hgx
  have HNEG := Lib.hid hh.out.1.1
  have HHR := Lib.hid HHW.out.2
  go_enter Tryz.func70, Tryz.ntmps70
  go_upto_region 1 with (fail)
  rw [← hW, ← hgx]
  have hg0 := blk_lt HHW.out.1
  have hg1 := blk_lt HHW.out.2
  clear hW hgx
  go_upto_region 2 with (fail)
  obtain ⟨W, g2, hW2, hg2, HH2, HB2, HS2⟩ := cell_new W0 110 #[.int .u32 2]
  rw [← hW2, ← hg2]
  have hhx := (HB2.out.block gx hg0).trans HHW.out.1
  obtain ⟨x0, x1, x2, _, _, _⟩ := three_cells hhx
  have HHR2 := Lib.hid ((HB2.out.block (gx + 1) hg1).trans HHW.out.2)
  have hgw := blk_lt HHR2.out
  have HTWO : Hid (NumAt .u32 110 4294967296 W W.heap.size (some ⟨g2, 0, none⟩) 1 1 2) := by
    show NumAt _ _ _ _ _ _ _ _ _
    rw [hW2, hg2]
    exact (NTWO_at W0).mono (by simp)
  have HBA := Lib.hid (HBW.out.trans (HB2.out.mono HBW.out.size))
  have HRW := Lib.hid (hh.out.to HBA.out hB (Nat.le_trans hB HBA.out.size))
  have HSZ := Lib.hid HBA.out.size
  clear hW2 hg2 HHW hhx hg0 hg1
  obtain ⟨W, rfl⟩ : ∃ Wx : World, Wx = W := ⟨_, rfl⟩
  refine wp_region_text 18 (fun x => x.cell? ⟨gx, 0, none⟩ = some (.bool neg) ∧ x.cell? ⟨gx, 1, none⟩ = some (.slice A n c) ∧ x.cell? ⟨gx, 2, none⟩ = some (.slice D m d)) (by kernel_rfl) (by kernel_rfl) ?_
  have hS : W.drew.cell? ⟨gx, 0, none⟩ = some (.bool neg) ∧ W.drew.cell? ⟨gx, 1, none⟩ = some (.slice A n c) ∧ W.drew.cell? ⟨gx, 2, none⟩ = some (.slice D m d) := ⟨x0, x1, x2⟩
  have hS0 := And.intro x0 (And.intro x1 x2)
  refine HT.take (i := 0) (oi := _) (v := ?_) rfl (by kernel_rfl) (by kernel_rfl) (by decide) (fun _ _ _ h => h) (Or.inl ⟨by rfl, ?_⟩) hS ?_
  rotate_left
  · intro wz
    go_simp
    try with_reducible rfl
  simp only [List.getElem_toArray, List.getElem_cons_succ, List.getElem_cons_zero, Act.put, List.setIfInBounds_toArray, List.set_cons_zero, List.set_cons_succ]
  refine HT.take (i := 1) (oi := _) (v := ?_) rfl (by kernel_rfl) (by kernel_rfl) (by decide) (fun _ _ _ h => h) (Or.inl ⟨by rfl, ?_⟩) hS ?_
  rotate_left
  · intro wz
    go_simp
    try with_reducible rfl
  simp only [List.getElem_toArray, List.getElem_cons_succ, List.getElem_cons_zero, Act.put, List.setIfInBounds_toArray, List.set_cons_zero, List.set_cons_succ]
  refine HT.load (i := 2) (oi := _) (v := ?_) rfl (by kernel_rfl) (by kernel_rfl) (by decide) (fun _ _ _ h => h) (by kernel_rfl) (Or.inl ⟨by rfl, ?_⟩) hS ?_
  rotate_left
  · intro wz hwz
    try dsimp only at hwz
    go_simp
    try with_reducible rfl
  simp only [List.getElem_toArray, List.getElem_cons_succ, List.getElem_cons_zero, Act.put, List.setIfInBounds_toArray, List.set_cons_zero, List.set_cons_succ]
  refine HT.take (i := 3) (oi := _) (v := ?_) rfl (by kernel_rfl) (by kernel_rfl) (by decide) (fun _ _ _ h => h) (Or.inl ⟨by rfl, ?_⟩) hS ?_
  rotate_left
  · intro wz
    go_simp
    try with_reducible rfl
  simp only [List.getElem_toArray, List.getElem_cons_succ, List.getElem_cons_zero, Act.put, List.setIfInBounds_toArray, List.set_cons_zero, List.set_cons_succ]
  refine HT.take (i := 5) (oi := _) (v := ?_) rfl (by kernel_rfl) (by kernel_rfl) (by decide) (fun _ _ _ h => h) (Or.inl ⟨by rfl, ?_⟩) hS ?_
  rotate_left
  · intro wz
    go_simp
    try with_reducible rfl
  simp only [List.getElem_toArray, List.getElem_cons_succ, List.getElem_cons_zero, Act.put, List.setIfInBounds_toArray, List.set_cons_zero, List.set_cons_succ]
  refine HT.load (i := 6) (oi := _) (v := ?_) rfl (by kernel_rfl) (by kernel_rfl) (by decide) (fun _ _ _ h => h) (by kernel_rfl) (Or.inl ⟨by rfl, ?_⟩) hS ?_
  rotate_left
  · intro wz hwz
    try dsimp only at hwz
    go_simp
    try with_reducible rfl
  simp only [List.getElem_toArray, List.getElem_cons_succ, List.getElem_cons_zero, Act.put, List.setIfInBounds_toArray, List.set_cons_zero, List.set_cons_succ]
  refine HT.take (i := 8) (oi := _) (v := ?_) rfl (by kernel_rfl) (by kernel_rfl) (by decide) (fun _ _ _ h => h) (Or.inl ⟨by rfl, ?_⟩) hS ?_
  rotate_left
  · intro wz
    go_simp
    try with_reducible rfl
  simp only [List.getElem_toArray, List.getElem_cons_succ, List.getElem_cons_zero, Act.put, List.setIfInBounds_toArray, List.set_cons_zero, List.set_cons_succ]
  refine HT.load (i := 9) (oi := _) (v := ?_) rfl (by kernel_rfl) (by kernel_rfl) (by decide) (fun _ _ _ h => h) (by kernel_rfl) (Or.inl ⟨by rfl, ?_⟩) hS ?_
  rotate_left
  · intro wz hwz
    try dsimp only at hwz
    go_simp
    try with_reducible rfl
  simp only [List.getElem_toArray, List.getElem_cons_succ, List.getElem_cons_zero, Act.put, List.setIfInBounds_toArray, List.set_cons_zero, List.set_cons_succ]
  refine HT.take (i := 10) (oi := _) (v := ?_) rfl (by kernel_rfl) (by kernel_rfl) (by decide) (fun _ _ _ h => h) (Or.inl ⟨by rfl, ?_⟩) hS ?_
  rotate_left
  · intro wz
    go_simp
    try with_reducible rfl
  simp only [List.getElem_toArray, List.getElem_cons_succ, List.getElem_cons_zero, Act.put, List.setIfInBounds_toArray, List.set_cons_zero, List.set_cons_succ]
  refine HT.one (i := 4) (o := _) rfl (by kernel_rfl) (by decide) (by rfl) ?_
  intro K hK
  go_simp
  refine (NMUL_any A (some ⟨g2, 0, none⟩) n c _ 1 1 2 (by omega) (by omega) _ W.heap.size (by exact Nat.le_refl _) (by exact Lib.hid HRW.out.1.2) (by exact HTWO)).mono ?_
  rintro e w1 ⟨A1, n1, c1, rfl, h1, k1, hb1⟩
  replace hb1 : Below W.heap.size W w1 := below_undrew hb1
  have H1 := Lib.hid h1
  have HB1 := Lib.hid hb1
  clear h1 hb1
  refine hK.out _ _ (three_keep hS0 HB1.out (by dsimp only; omega) (by dsimp only; omega) (by dsimp only; omega)) ?_
  clear hK K hS
  have hS := three_keep hS0 HB1.out (by dsimp only; omega) (by dsimp only; omega) (by dsimp only; omega)
  try simp only [List.getElem_toArray, List.getElem_cons_succ, List.getElem_cons_zero, Act.put, List.setIfInBounds_toArray, List.set_cons_zero, List.set_cons_succ]
  refine HT.one (i := 7) (o := _) rfl (by kernel_rfl) (by decide) (by rfl) ?_
  intro K hK
  go_simp
  refine (NADD_any A1 D n1 c1 _ m d y (by omega) (by omega) _ w1.heap.size (Nat.le_refl _) H1 (by exact Lib.hid (HRW.out.2.to HB1.out (Nat.le_refl _) HB1.out.size))).mono ?_
  rintro e w2 ⟨A2, n2, c2, rfl, h2, k2, hb2⟩
  have H2 := Lib.hid h2
  have HB2 := Lib.hid (HB1.out.trans (hb2.mono HB1.out.size))
  have HL2 := Lib.hid hb2
  clear h2 hb2
  refine hK.out _ _ (three_keep hS0 HB2.out (by dsimp only; omega) (by dsimp only; omega) (by dsimp only; omega)) ?_
  clear hK K hS
  have hS := three_keep hS0 HB2.out (by dsimp only; omega) (by dsimp only; omega) (by dsimp only; omega)
  try simp only [List.getElem_toArray, List.getElem_cons_succ, List.getElem_cons_zero, Act.put, List.setIfInBounds_toArray, List.set_cons_zero, List.set_cons_succ]
  refine HT.one (i := 11) (o := _) rfl (by kernel_rfl) (by decide) (by rfl) ?_
  intro K hK
  go_simp
  refine (NMUL_any D (some ⟨g2, 0, none⟩) m d _ 1 1 2 (by omega) (by omega) _ w2.heap.size (by exact Nat.le_refl _) (by exact Lib.hid (HRW.out.2.to HB2.out (Nat.le_refl _) HB2.out.size)) (by exact Lib.hid (HTWO.out.to HB2.out (Nat.le_refl _) HB2.out.size))).mono ?_
  rintro e w3 ⟨A3, n3, c3, rfl, h3, k3, hb3⟩
  have H3 := Lib.hid h3
  have HB3 := Lib.hid (HB2.out.trans (hb3.mono HB2.out.size))
  have HL3 := Lib.hid hb3
  clear h3 hb3
  refine hK.out _ _ (three_keep hS0 HB3.out (by dsimp only; omega) (by dsimp only; omega) (by dsimp only; omega)) ?_
  clear hK K hS
  have hS := three_keep hS0 HB3.out (by dsimp only; omega) (by dsimp only; omega) (by dsimp only; omega)
  try simp only [List.getElem_toArray, List.getElem_cons_succ, List.getElem_cons_zero, Act.put, List.setIfInBounds_toArray, List.set_cons_zero, List.set_cons_succ]
  have hdp := hy
  refine HT.one (i := 12) (o := _) rfl (by kernel_rfl) (by decide) (by rfl) ?_
  intro K hK
  go_simp
  refine (NDIV_any A2 A3 n2 c2 _ n3 c3 (y * 2) (by omega) (by omega) _ w3.heap.size (by exact Nat.le_refl _) (by exact Lib.hid (H2.out.to HL3.out (Nat.le_refl _) HL3.out.size)) (by exact H3)).mono ?_
  rintro e w4 ⟨A4, n4, c4, A5, n5, c5, rfl, h4, _, k4, _, hb4⟩
  have H4 := Lib.hid h4
  have HB4 := Lib.hid (HB3.out.trans (hb4.mono HB3.out.size))
  have HL4 := Lib.hid hb4
  clear h4 hb4
  refine hK.out _ _ (three_keep hS0 HB4.out (by dsimp only; omega) (by dsimp only; omega) (by dsimp only; omega)) ?_
  clear hK K hS
  have hS := three_keep hS0 HB4.out (by dsimp only; omega) (by dsimp only; omega) (by dsimp only; omega)
  try simp only [List.getElem_toArray, List.getElem_cons_succ, List.getElem_cons_zero, Act.put, List.setIfInBounds_toArray, List.set_cons_zero, List.set_cons_succ]
  refine HT.take (i := 13) (oi := _) (v := ?_) rfl (by kernel_rfl) (by kernel_rfl) (by decide) (fun _ _ _ h => h) (Or.inl ⟨by rfl, ?_⟩) hS ?_
  rotate_left
  · intro wz
    go_simp
    try with_reducible rfl
  simp only [List.getElem_toArray, List.getElem_cons_succ, List.getElem_cons_zero, Act.put, List.setIfInBounds_toArray, List.set_cons_zero, List.set_cons_succ]
  refine HT.take (i := 14) (oi := _) (v := ?_) rfl (by kernel_rfl) (by kernel_rfl) (by decide) (fun _ _ _ h => h) (Or.inl ⟨by rfl, ?_⟩) hS ?_
  rotate_left
  · intro wz
    go_simp
    try with_reducible rfl
  simp only [List.getElem_toArray, List.getElem_cons_succ, List.getElem_cons_zero, Act.put, List.setIfInBounds_toArray, List.set_cons_zero, List.set_cons_succ]
  refine HT.take (i := 15) (oi := _) (v := ?_) rfl (by kernel_rfl) (by kernel_rfl) (by decide) (fun _ _ _ h => h) (Or.inl ⟨by rfl, ?_⟩) hS ?_
  rotate_left
  · intro wz
    go_simp
    try with_reducible rfl
  simp only [List.getElem_toArray, List.getElem_cons_succ, List.getElem_cons_zero, Act.put, List.setIfInBounds_toArray, List.set_cons_zero, List.set_cons_succ]
  refine HT.take (i := 16) (oi := _) (v := ?_) rfl (by kernel_rfl) (by kernel_rfl) (by decide) (fun _ _ _ h => h) (Or.inl ⟨by rfl, ?_⟩) hS ?_
  rotate_left
  · intro wz
    go_simp
    try with_reducible rfl
  simp only [List.getElem_toArray, List.getElem_cons_succ, List.getElem_cons_zero, Act.put, List.setIfInBounds_toArray, List.set_cons_zero, List.set_cons_succ]
  refine HT.take (i := 17) (oi := _) (v := ?_) rfl (by kernel_rfl) (by kernel_rfl) (by decide) (fun _ _ _ h => h) (Or.inl ⟨by rfl, ?_⟩) hS ?_
  rotate_left
  · intro wz
    go_simp
    try with_reducible rfl
  simp only [List.getElem_toArray, List.getElem_cons_succ, List.getElem_cons_zero, Act.put, List.setIfInBounds_toArray, List.set_cons_zero, List.set_cons_succ]
  obtain ⟨z0, z1, z2⟩ := hS
  have hS := z0
  have hhx := (HB4.out.block (gx + 1) hgw).trans HHR2.out
  obtain ⟨hr0, hr1, hf0, hf1⟩ := two_cells hhx
  have HHX := Lib.hid hhx
  have HPOS := Lib.hid (H4.out.pos_iff (by omega))
  obtain ⟨x, hx⟩ : ∃ x, (z.natAbs * 2 + y) / (y * 2) = x := ⟨_, rfl⟩
  have HX := Lib.hid hx
  rw [hx] at H4 HPOS
  clear hhx hx z1 z2 hdp
  refine HT.done (by kernel_rfl) ?_
  clear hS
  simp only [List.drop_succ_cons, List.drop_zero]
  cases neg with
  | false =>
    have hz : ¬ z < 0 := by have := HNEG.out; simpa using this
    have HNQ : Hid (nearR z y = (x : Int)) := by show _ = _; unfold nearR; rw [if_neg hz, HX.out]
    have HSG : Hid (false = decide (nearR z y < 0)) := by show _ = _; rw [HNQ.out]; exact (decide_eq_false (by omega)).symm
    clear hz
    go_wp2_with fail
    exact end_intn rfl rfl rfl hr0 hr1 (outI_set (z := nearR z y) (neg := false) HSG.out (by have := HGX.out; omega) ⟨_, _, HHX.out⟩ (by rw [HNQ.out]; (try rw [Int.natAbs_neg]); rw [Int.natAbs_natCast]; exact H4.out) (HBA.out.trans (HB4.out.mono HSZ.out)) (by omega))
  | true =>
    have hz : z < 0 := by have := HNEG.out; simpa using this
    have HNQ : Hid (nearR z y = -(x : Int)) := by show _ = _; unfold nearR; rw [if_pos hz, HX.out]
    clear hz
    by_cases hn4 : 0 < n4
    · have hd4 : decide ((0 : Int) < (n4 : Int)) = true := by simp; omega
      have HSG : Hid (true = decide (nearR z y < 0)) := by have := HPOS.out.1 hn4; show _ = _; rw [HNQ.out]; exact (decide_eq_true (by omega)).symm
      go_wp2_with fail
      exact end_intn rfl rfl rfl hr0 hr1 (outI_set (z := nearR z y) (neg := true) HSG.out (by have := HGX.out; omega) ⟨_, _, HHX.out⟩ (by rw [HNQ.out]; (try rw [Int.natAbs_neg]); rw [Int.natAbs_natCast]; exact H4.out) (HBA.out.trans (HB4.out.mono HSZ.out)) (by omega))
    · have hd4 : decide ((0 : Int) < (n4 : Int)) = false := by simp; omega
      have HSG : Hid (false = decide (nearR z y < 0)) := by
        have : ¬ 0 < x := fun h => hn4 (HPOS.out.2 h)
        show _ = _; rw [HNQ.out]; exact (decide_eq_false (by omega)).symm
      go_wp2_with fail
      exact end_intn rfl rfl rfl hr0 hr1 (outI_set (z := nearR z y) (neg := false) HSG.out (by have := HGX.out; omega) ⟨_, _, HHX.out⟩ (by rw [HNQ.out]; (try rw [Int.natAbs_neg]); rw [Int.natAbs_natCast]; exact H4.out) (HBA.out.trans (HB4.out.mono HSZ.out)) (by omega))
set_option maxRecDepth 100000 in
set_option maxHeartbeats 1000000 in
theorem QSIGN_raw (neg : Bool) (A D : Option Addr) (n c m d : Nat) (z : Int) (y : Nat) (w : World) (B : Nat) (hB : B ≤ w.heap.size) (hh : Hid (RawAt w B neg A n c D m d z y)) :
    Calls Tryz.prog 73 #[.agg #[.bool neg, .slice A n c, .slice D m d]] w fun e w' => e = .returned (.int .i64 z.sign) ∧ Below w.heap.size w w' := by
  have HBW := Lib.hid ((Below.refl w.heap.size w).alloc (Nat.le_refl _) (.cells #[.bool neg, .slice A n c, .slice D m d] 48))
  go_enter Tryz.func73, Tryz.ntmps73
  go_wp2_with fail
  refine (ISIGN_any neg A n c z _ B (Lib.hid (hh.out.1.below HBW.out hB))).mono ?_
  rintro e w1 ⟨rfl, hb1⟩
  have HB1 := Lib.hid (HBW.out.trans (hb1.mono HBW.out.size))
  clear hb1
  go_wp2_with fail
  go_ret
  exact ⟨rfl, HB1.out⟩
end Go.Proofs.YtnhmhjhfoonakaaGreatDoor

/- The clipper's near. -/
set_option linter.unusedSimpArgs false
set_option linter.unusedVariables false
namespace Go.Proofs.YtnhmhjhfoonakaaGreatDoor
open Go.RowKit Go.Dw
theorem clip_lo {Z : Int} (h : Z < -8388608) : clipV Z = -8388608 ∧ clipN Z = 1 := ⟨by unfold clipV; rw [if_neg (by omega), if_pos h], by unfold clipN; rw [if_neg (by omega), if_pos h]⟩
theorem clip_hi {Z : Int} (h : 8388607 < Z) : clipV Z = 8388607 ∧ clipN Z = 1 := ⟨if_pos h, if_pos h⟩
theorem clip_lo2 {Y Z : Int} (h : Y < -8388608) (h' : Z < -8388608) : clipV Y = clipV Z ∧ clipN Y = clipN Z := by rw [(clip_lo h).1, (clip_lo h).2, (clip_lo h').1, (clip_lo h').2]; exact ⟨rfl, rfl⟩
theorem clip_hi2 {Y Z : Int} (h : 8388607 < Y) (h' : 8388607 < Z) : clipV Y = clipV Z ∧ clipN Y = clipN Z := by rw [(clip_hi h).1, (clip_hi h).2, (clip_hi h').1, (clip_hi h').2]; exact ⟨rfl, rfl⟩
set_option maxRecDepth 100000 in
set_option maxHeartbeats 4000000 in
theorem CNEAR_any (cc : Int) (g : Nat) (hc0 : 0 ≤ cc) (hc1 : cc ≤ 1000000000) (neg : Bool) (A D : Option Addr) (n c m d : Nat) (z : Int) (y : Nat) (hy : 0 < y) (hn : n ≤ 10000000) (hm : m ≤ 10000000) (w : World) (h : Hid (w.heap[g]? = some (.cells #[.int .i64 cc] 65 (0, 0)))) (B : Nat) (hB : B ≤ w.heap.size) (hh : Hid (RawAt w B neg A n c D m d z y)) :
    Calls Tryz.prog 34 #[.pointer (some ⟨g, 0, none⟩), .agg #[.bool neg, .slice A n c, .slice D m d]] w fun e w' => e = .returned (.int .i64 (clipV (nearR z y))) ∧ w'.heap[g]? = some (.cells #[.int .i64 (cc + clipN (nearR z y))] 65 (0, 0)) ∧ w.grownBy w' (some g) := by
  obtain ⟨W, gx, hW, hgx, HHW, HBW, HSW⟩ := cell_new w 48 #[.bool neg, .slice A n c, .slice D m d]
  obtain ⟨x0, x1, x2, _, _, _⟩ := three_cells HHW.out
  have HRW := Lib.hid (hh.out.to HBW.out hB (by have := HSW.out; omega))
  have hgw := blk_lt HHW.out
  have hgl := blk_lt h.out
  obtain ⟨Z, hZ⟩ : ∃ Z, nearR z y = Z := ⟨_, rfl⟩
  have HZ := Lib.hid hZ
  have HZS : Hid (Z < 0 → z < 0) := fun h0 => by
    rw [← hZ] at h0
    unfold nearR at h0
    generalize (z.natAbs * 2 + y) / (y * 2) = k at h0
    split at h0
    · assumption
    · omega
  have HZT : Hid (0 < Z → ¬ z < 0) := fun h0 h1 => by
    rw [← hZ] at h0
    unfold nearR at h0
    rw [if_pos h1] at h0
    generalize (z.natAbs * 2 + y) / (y * 2) = k at h0
    omega
  rw [hZ]
  clear hZ
  go_enter Tryz.func34, Tryz.ntmps34
  go_upto_region 1 with (fail)
  rw [← hW, ← hgx]
  clear hW hgx
  go_wp2_with fail
  refine (QNEAR_raw neg A D n c m d z y hy hn hm _ W.heap.size (Nat.le_refl _) HRW).mono ?_
  rintro e w1 ⟨ng1, A1, n1, c1, rfl, hh1, k1, hb1⟩
  rw [HZ.out] at hh1
  have H1 := Lib.hid hh1
  have HB1 := Lib.hid (HBW.out.trans (hb1.mono HBW.out.size))
  obtain ⟨x0, x1, x2⟩ := three_keep (And.intro x0 (And.intro x1 x2)) hb1 (by dsimp only; omega) (by dsimp only; omega) (by dsimp only; omega)
  have HRW1 := Lib.hid (HRW.out.to hb1 (Nat.le_refl _) hb1.size)
  replace hgw := Nat.lt_of_lt_of_le hgw hb1.size
  clear hb1 hh1
  go_wp2_with fail
  refine (ISMALL_any ng1 A1 n1 c1 Z _ w1.heap.size (Nat.le_refl _) H1).mono ?_
  rintro e w2 ⟨rfl, hb2⟩
  have HB2 := Lib.hid (HB1.out.trans (hb2.mono HB1.out.size))
  obtain ⟨x0, x1, x2⟩ := three_keep (And.intro x0 (And.intro x1 x2)) hb2 (by dsimp only; omega) (by dsimp only; omega) (by dsimp only; omega)
  have HRW2 := Lib.hid (HRW1.out.to hb2 (Nat.le_refl _) hb2.size)
  have HG2 := Lib.hid ((HB2.out.block g hgl).trans h.out)
  clear hb2
  by_cases hs : Z.natAbs < 9223372036854775808
  · have he : smallI Z = (Z, true) := by unfold smallI; rw [if_pos hs]
    rw [he]
    clear he x0 x1 x2
    go_wp2_with fail
    refine (CLIPAT_any Z cc g hc0 hc1 w2 HG2).mono ?_
    rintro e w4 ⟨rfl, hg4, hgr4⟩
    go_wp2_with fail
    go_ret
    exact ⟨rfl, hg4, grownBy_trans (grownBy_below HB2.out _) hgr4⟩
  · have he : smallI Z = (0, false) := by unfold smallI; rw [if_neg hs]
    rw [he]
    dsimp only
    go_wp2_with fail
    refine (QSIGN_raw neg A D n c m d z y _ w2.heap.size (Nat.le_refl _) HRW2).mono ?_
    rintro e w3 ⟨rfl, hb3⟩
    replace HB2 := Lib.hid (HB2.out.trans (hb3.mono HB2.out.size))
    have HG3 := Lib.hid ((hb3.block g (blk_lt HG2.out)).trans HG2.out)
    clear hb3 x0 x1 x2 he
    by_cases hz : Z < 0
    · have hzz : z < 0 := HZS.out hz
      have HV : Hid (clipV (-4611686018427387904) = clipV Z ∧ clipN (-4611686018427387904) = clipN Z) := clip_lo2 (by omega) (by omega)
      clear hs
      go_wp2_with fail
      refine (CLIPAT_any (-4611686018427387904) cc g hc0 hc1 w3 HG3).mono ?_
      rintro e w4 ⟨rfl, hg4, hgr4⟩
      rw [HV.out.1]
      rw [HV.out.2] at hg4
      clear HV
      go_wp2_with fail
      go_ret
      exact ⟨rfl, hg4, grownBy_trans (grownBy_below HB2.out _) hgr4⟩
    · have hzz : ¬ z < 0 := Int.not_lt.2 (HZT.out (by omega))
      have HV : Hid (clipV 4611686018427387904 = clipV Z ∧ clipN 4611686018427387904 = clipN Z) := clip_hi2 (by omega) (by omega)
      clear hs
      go_wp2_with fail
      refine (CLIPAT_any 4611686018427387904 cc g hc0 hc1 w3 HG3).mono ?_
      rintro e w4 ⟨rfl, hg4, hgr4⟩
      rw [HV.out.1]
      rw [HV.out.2] at hg4
      clear HV
      go_wp2_with fail
      go_ret
      exact ⟨rfl, hg4, grownBy_trans (grownBy_below HB2.out _) hgr4⟩
end Go.Proofs.YtnhmhjhfoonakaaGreatDoor
