/- SoundMixesAreSums, walked. -/
import Derived.Test.YtnhmhjhfoonakaaMpl
import Derived.Test.YtnhmhjhfoonakaaSilence
import Derived.Test.YtnhmhjhfoonakaaLong
import Derived.Test.YtnhmhjhfoonakaaWf
import Derived.Test.YtnhmhjhfoonakaaWb
import Derived.Test.YtnhmhjhfoonakaaWb
import Derived.Test.YtnhmhjhfoonakaaZa
import Derived.Test.YtnhmhjhfoonakaaRegion3
set_option linter.unusedSimpArgs false
set_option linter.unusedVariables false
namespace Go.Proofs.Ytnhmhjhfoonakaa
open Go.RowKit Go.Dw
theorem own_set2 {w : World} {B : Nat} {v : Value} {xss : List (List Int)} (h : OwnRows w B v xss) {g : Nat} (hg : g < B) (u0 u1 : Value) : OwnRows ((w.setCell ⟨g, 0, none⟩ u0).setCell ⟨g, 1, none⟩ u1) B v xss := by
  obtain ⟨rows, hL⟩ := h
  exact ⟨rows, (hL.set_below (p := ⟨g, 0, none⟩) hg u0).set_below (p := ⟨g, 1, none⟩) hg u1⟩
theorem own_set2_far {w : World} {B : Nat} {v : Value} {xss : List (List Int)} (h : OwnRows w B v xss) {g : Nat} {o0 o1 : Value} (hg : w.heap[g]? = some (.cells #[o0, o1] 24 (0, 0))) (u0 u1 : Value) : OwnRows ((w.setCell ⟨g, 0, none⟩ u0).setCell ⟨g, 1, none⟩ u1) B v xss := by
  obtain ⟨rows, hL⟩ := h
  exact ⟨rows, hL.set2_far hg (by decide) (by decide) u0 u1⟩
theorem box_far2 {w : World} {g p : Nat} {o : Obj} (h : w.heap[g]? = some o) (hne : g ≠ p) (u0 u1 : Value) : ((w.setCell ⟨p, 0, none⟩ u0).setCell ⟨p, 1, none⟩ u1).heap[g]? = some o := by
  rw [Below.heap_setCell _ _ _ _ (by simpa using hne), Below.heap_setCell _ _ _ _ (by simpa using hne)]
  exact h
set_option maxRecDepth 100000 in
set_option maxHeartbeats 4000000 in
theorem lawMs_e1 (r r' : Int) (A A' : Option Addr) (n n' c c' : Nat) (xss yss : List (List Int)) (f g : Int) (hf : f ≠ 0) (hg0 : g ≠ 0) (hm1 : mixS r r' xss yss = (0, [], 0, f)) (hm2 : mixS r' r yss xss = (0, [], 0, g)) (hq : (chkS r xss != 0) = true) (w : World) (hh : Hid (RowsAt w w.heap.size A n xss)) (hh' : Hid (RowsAt w w.heap.size A' n' yss)) :
    Calls Try.prog 3 #[.agg #[.int .i64 r, .slice A n c], .agg #[.int .i64 r', .slice A' n' c']] w fun e w' => e = .returned (.bool true) ∧ Below w.heap.size w w' := by
  obtain ⟨zr, hzr⟩ : ∃ z : Int, z = 0 := ⟨_, rfl⟩
  obtain ⟨zx, hzx⟩ : ∃ z : List (List Int), z = [] := ⟨_, rfl⟩
  rw [← hzx] at hm1 hm2
  have HM1 : Hid (mixS r r' xss yss = (zr, zx, 0, f)) := by show _ = _; rw [hm1, hzr]
  have HM2 : Hid (mixS r' r yss xss = (zr, zx, 0, g)) := by show _ = _; rw [hm2, hzr]
  have d1 : (f != 0) = true := by simpa using hf
  clear hm1 hm2 hzr hzx hf hg0
  obtain ⟨W0, gx, hW, hgx, HHW, HB, HSW⟩ := boxes2 w (.cells #[.int .i64 r, .slice A n c] 24) (.cells #[.int .i64 r', .slice A' n' c'] 24)
  have HX := Lib.hid HHW.out.1
  obtain ⟨gy, hgy⟩ : ∃ gy, gy = gx + 1 := ⟨_, rfl⟩
  have HY : Hid (W0.heap[gy]? = some (.cells #[.int .i64 r', .slice A' n' c'] 24 (0, 0))) := by rw [hgy]; exact HHW.out.2
  obtain ⟨x0, x1, _, _⟩ := two_cells HX.out
  obtain ⟨y0, y1, _, _⟩ := two_cells HY.out
  go_enter Try.func3, Try.ntmps3
  go_upto_region 1 with (fail)
  rw [← hW, ← hgx, ← hgy]
  clear hW HHW HSW
  have HGX : Hid (gx = w.heap.size) := hgx
  clear hgx hgy
  go_wp2_with fail
  refine (MIX_any r r' A A' n n' c c' xss yss _ w.heap.size HB.out.size (hh.out.below HB.out (Nat.le_refl _)) (hh'.out.below HB.out (Nat.le_refl _))).mono ?_
  rw [HM1.out]
  rintro e w1 ⟨v1, rfl, ho1, hb⟩
  obtain ⟨A1, c1, rfl, _, _⟩ := ho1.form
  dsimp only at ho1 ⊢
  clear x0 x1 y0 y1
  replace HX := Lib.hid ((hb.block gx (blk_lt HX.out)).trans HX.out)
  replace HY := Lib.hid ((hb.block gy (blk_lt HY.out)).trans HY.out)
  replace HB := Lib.hid (HB.out.trans (hb.mono HB.out.size))
  clear hb
  go_upto_region 2 with (fail)
  obtain ⟨X1, g5, hX, hg, B5, HBX⟩ := sbox_new w1 zr A1 zx.length c1 zx ho1.rows
  rw [← hX, ← hg]
  have hb := HBX.out
  have HG5 : Hid (w.heap.size ≤ g5 ∧ g5 ≠ gx) := ⟨by rw [hg]; exact HB.out.size, by rw [hg]; have := blk_lt HX.out; omega⟩
  replace HX := Lib.hid ((hb.block gx (blk_lt HX.out)).trans HX.out)
  replace HY := Lib.hid ((hb.block gy (blk_lt HY.out)).trans HY.out)
  replace HB := Lib.hid (HB.out.trans (hb.mono HB.out.size))
  clear hX hg HBX hb ho1
  obtain ⟨x0, x1, _, _⟩ := two_cells HX.out
  obtain ⟨y0, y1, _, _⟩ := two_cells HY.out
  go_wp2_with fail
  refine (MIX_any r' r A' A n' n c' c yss xss _ w.heap.size HB.out.size (hh'.out.below HB.out (Nat.le_refl _)) (hh.out.below HB.out (Nat.le_refl _))).mono ?_
  rw [HM2.out]
  rintro e w2 ⟨v2, rfl, ho2, hb⟩
  obtain ⟨A2, c2, rfl, _, _⟩ := ho2.form
  dsimp only at ho2 ⊢
  clear x0 x1 y0 y1
  replace B5 := Lib.hid (B5.out.below hb)
  replace HX := Lib.hid ((hb.block gx (blk_lt HX.out)).trans HX.out)
  replace HY := Lib.hid ((hb.block gy (blk_lt HY.out)).trans HY.out)
  replace HB := Lib.hid (HB.out.trans (hb.mono HB.out.size))
  clear hb
  go_upto_region 3 with (fail)
  obtain ⟨X2, g8, hX, hg, B8, HBX⟩ := sbox_new w2 zr A2 zx.length c2 zx ho2.rows
  rw [← hX, ← hg]
  have hb := HBX.out
  replace B5 := Lib.hid (B5.out.below hb)
  replace HX := Lib.hid ((hb.block gx (blk_lt HX.out)).trans HX.out)
  replace HY := Lib.hid ((hb.block gy (blk_lt HY.out)).trans HY.out)
  replace HB := Lib.hid (HB.out.trans (hb.mono HB.out.size))
  clear hX hg HBX hb ho2
  obtain ⟨p0, p1, _, _⟩ := sbox_cells B5.out
  obtain ⟨q0, q1, _, _⟩ := sbox_cells B8.out
  go_wp2_with fail
  refine (SAME_any _ _ _ _ _ _ _ _ zx zx _ X2.heap.size (Nat.le_refl _) B5.out.rows B8.out.rows).mono ?_
  rintro e w3 ⟨rfl, hb⟩
  rw [show sameS zr zx zr zx = true by simp [sameS]]
  replace B5 := Lib.hid (B5.out.below hb)
  replace HX := Lib.hid ((hb.block gx (blk_lt HX.out)).trans HX.out)
  replace HY := Lib.hid ((hb.block gy (blk_lt HY.out)).trans HY.out)
  replace HB := Lib.hid (HB.out.trans (hb.mono HB.out.size))
  clear hb p0 p1 q0 q1 B8
  go_wp2_with fail
  refine (AWAKE_any _).mono ?_
  rintro e w4 ⟨rfl, hb⟩
  replace B5 := Lib.hid (B5.out.below hb)
  replace HX := Lib.hid ((hb.block gx (blk_lt HX.out)).trans HX.out)
  replace HY := Lib.hid ((hb.block gy (blk_lt HY.out)).trans HY.out)
  replace HB := Lib.hid (HB.out.trans (hb.mono HB.out.size))
  clear hb
  obtain ⟨x0, x1, _, _⟩ := two_cells HX.out
  obtain ⟨y0, y1, _, _⟩ := two_cells HY.out
  go_wp2_with fail
  refine (CHECK_any r A n c xss _ w.heap.size HB.out.size (hh.out.below HB.out (Nat.le_refl _))).mono ?_
  rintro e w5 ⟨rfl, hb⟩
  clear x0 x1 y0 y1
  replace HX := Lib.hid ((hb.block gx (blk_lt HX.out)).trans HX.out)
  replace HY := Lib.hid ((hb.block gy (blk_lt HY.out)).trans HY.out)
  replace HB := Lib.hid (HB.out.trans (hb.mono HB.out.size))
  clear hb
  obtain ⟨x0, x1, _, _⟩ := two_cells HX.out
  obtain ⟨y0, y1, _, _⟩ := two_cells HY.out
  go_wp2_with fail
  go_ret
  exact ⟨rfl, HB.out⟩
set_option maxRecDepth 100000 in
set_option maxHeartbeats 4000000 in
theorem lawMs_e2 (r r' : Int) (A A' : Option Addr) (n n' c c' : Nat) (xss yss : List (List Int)) (f g : Int) (hf : f ≠ 0) (hg0 : g ≠ 0) (hm1 : mixS r r' xss yss = (0, [], 0, f)) (hm2 : mixS r' r yss xss = (0, [], 0, g)) (hq : (chkS r xss != 0) = false) (hq2 : (chkS r' yss != 0) = true) (w : World) (hh : Hid (RowsAt w w.heap.size A n xss)) (hh' : Hid (RowsAt w w.heap.size A' n' yss)) :
    Calls Try.prog 3 #[.agg #[.int .i64 r, .slice A n c], .agg #[.int .i64 r', .slice A' n' c']] w fun e w' => e = .returned (.bool true) ∧ Below w.heap.size w w' := by
  obtain ⟨zr, hzr⟩ : ∃ z : Int, z = 0 := ⟨_, rfl⟩
  obtain ⟨zx, hzx⟩ : ∃ z : List (List Int), z = [] := ⟨_, rfl⟩
  rw [← hzx] at hm1 hm2
  have HM1 : Hid (mixS r r' xss yss = (zr, zx, 0, f)) := by show _ = _; rw [hm1, hzr]
  have HM2 : Hid (mixS r' r yss xss = (zr, zx, 0, g)) := by show _ = _; rw [hm2, hzr]
  have d1 : (f != 0) = true := by simpa using hf
  clear hm1 hm2 hzr hzx hf hg0
  obtain ⟨W0, gx, hW, hgx, HHW, HB, HSW⟩ := boxes2 w (.cells #[.int .i64 r, .slice A n c] 24) (.cells #[.int .i64 r', .slice A' n' c'] 24)
  have HX := Lib.hid HHW.out.1
  obtain ⟨gy, hgy⟩ : ∃ gy, gy = gx + 1 := ⟨_, rfl⟩
  have HY : Hid (W0.heap[gy]? = some (.cells #[.int .i64 r', .slice A' n' c'] 24 (0, 0))) := by rw [hgy]; exact HHW.out.2
  obtain ⟨x0, x1, _, _⟩ := two_cells HX.out
  obtain ⟨y0, y1, _, _⟩ := two_cells HY.out
  go_enter Try.func3, Try.ntmps3
  go_upto_region 1 with (fail)
  rw [← hW, ← hgx, ← hgy]
  clear hW HHW HSW
  have HGX : Hid (gx = w.heap.size) := hgx
  clear hgx hgy
  go_wp2_with fail
  refine (MIX_any r r' A A' n n' c c' xss yss _ w.heap.size HB.out.size (hh.out.below HB.out (Nat.le_refl _)) (hh'.out.below HB.out (Nat.le_refl _))).mono ?_
  rw [HM1.out]
  rintro e w1 ⟨v1, rfl, ho1, hb⟩
  obtain ⟨A1, c1, rfl, _, _⟩ := ho1.form
  dsimp only at ho1 ⊢
  clear x0 x1 y0 y1
  replace HX := Lib.hid ((hb.block gx (blk_lt HX.out)).trans HX.out)
  replace HY := Lib.hid ((hb.block gy (blk_lt HY.out)).trans HY.out)
  replace HB := Lib.hid (HB.out.trans (hb.mono HB.out.size))
  clear hb
  go_upto_region 2 with (fail)
  obtain ⟨X1, g5, hX, hg, B5, HBX⟩ := sbox_new w1 zr A1 zx.length c1 zx ho1.rows
  rw [← hX, ← hg]
  have hb := HBX.out
  have HG5 : Hid (w.heap.size ≤ g5 ∧ g5 ≠ gx) := ⟨by rw [hg]; exact HB.out.size, by rw [hg]; have := blk_lt HX.out; omega⟩
  replace HX := Lib.hid ((hb.block gx (blk_lt HX.out)).trans HX.out)
  replace HY := Lib.hid ((hb.block gy (blk_lt HY.out)).trans HY.out)
  replace HB := Lib.hid (HB.out.trans (hb.mono HB.out.size))
  clear hX hg HBX hb ho1
  obtain ⟨x0, x1, _, _⟩ := two_cells HX.out
  obtain ⟨y0, y1, _, _⟩ := two_cells HY.out
  go_wp2_with fail
  refine (MIX_any r' r A' A n' n c' c yss xss _ w.heap.size HB.out.size (hh'.out.below HB.out (Nat.le_refl _)) (hh.out.below HB.out (Nat.le_refl _))).mono ?_
  rw [HM2.out]
  rintro e w2 ⟨v2, rfl, ho2, hb⟩
  obtain ⟨A2, c2, rfl, _, _⟩ := ho2.form
  dsimp only at ho2 ⊢
  clear x0 x1 y0 y1
  replace B5 := Lib.hid (B5.out.below hb)
  replace HX := Lib.hid ((hb.block gx (blk_lt HX.out)).trans HX.out)
  replace HY := Lib.hid ((hb.block gy (blk_lt HY.out)).trans HY.out)
  replace HB := Lib.hid (HB.out.trans (hb.mono HB.out.size))
  clear hb
  go_upto_region 3 with (fail)
  obtain ⟨X2, g8, hX, hg, B8, HBX⟩ := sbox_new w2 zr A2 zx.length c2 zx ho2.rows
  rw [← hX, ← hg]
  have hb := HBX.out
  replace B5 := Lib.hid (B5.out.below hb)
  replace HX := Lib.hid ((hb.block gx (blk_lt HX.out)).trans HX.out)
  replace HY := Lib.hid ((hb.block gy (blk_lt HY.out)).trans HY.out)
  replace HB := Lib.hid (HB.out.trans (hb.mono HB.out.size))
  clear hX hg HBX hb ho2
  obtain ⟨p0, p1, _, _⟩ := sbox_cells B5.out
  obtain ⟨q0, q1, _, _⟩ := sbox_cells B8.out
  go_wp2_with fail
  refine (SAME_any _ _ _ _ _ _ _ _ zx zx _ X2.heap.size (Nat.le_refl _) B5.out.rows B8.out.rows).mono ?_
  rintro e w3 ⟨rfl, hb⟩
  rw [show sameS zr zx zr zx = true by simp [sameS]]
  replace B5 := Lib.hid (B5.out.below hb)
  replace HX := Lib.hid ((hb.block gx (blk_lt HX.out)).trans HX.out)
  replace HY := Lib.hid ((hb.block gy (blk_lt HY.out)).trans HY.out)
  replace HB := Lib.hid (HB.out.trans (hb.mono HB.out.size))
  clear hb p0 p1 q0 q1 B8
  go_wp2_with fail
  refine (AWAKE_any _).mono ?_
  rintro e w4 ⟨rfl, hb⟩
  replace B5 := Lib.hid (B5.out.below hb)
  replace HX := Lib.hid ((hb.block gx (blk_lt HX.out)).trans HX.out)
  replace HY := Lib.hid ((hb.block gy (blk_lt HY.out)).trans HY.out)
  replace HB := Lib.hid (HB.out.trans (hb.mono HB.out.size))
  clear hb
  obtain ⟨x0, x1, _, _⟩ := two_cells HX.out
  obtain ⟨y0, y1, _, _⟩ := two_cells HY.out
  go_wp2_with fail
  refine (CHECK_any r A n c xss _ w.heap.size HB.out.size (hh.out.below HB.out (Nat.le_refl _))).mono ?_
  rintro e w5 ⟨rfl, hb⟩
  clear x0 x1 y0 y1
  replace HX := Lib.hid ((hb.block gx (blk_lt HX.out)).trans HX.out)
  replace HY := Lib.hid ((hb.block gy (blk_lt HY.out)).trans HY.out)
  replace HB := Lib.hid (HB.out.trans (hb.mono HB.out.size))
  clear hb
  obtain ⟨x0, x1, _, _⟩ := two_cells HX.out
  obtain ⟨y0, y1, _, _⟩ := two_cells HY.out
  go_wp2_with fail
  refine (CHECK_any r' A' n' c' yss _ w.heap.size HB.out.size (hh'.out.below HB.out (Nat.le_refl _))).mono ?_
  rintro e w6 ⟨rfl, hb⟩
  clear x0 x1 y0 y1
  replace HX := Lib.hid ((hb.block gx (blk_lt HX.out)).trans HX.out)
  replace HY := Lib.hid ((hb.block gy (blk_lt HY.out)).trans HY.out)
  replace HB := Lib.hid (HB.out.trans (hb.mono HB.out.size))
  clear hb
  obtain ⟨x0, x1, _, _⟩ := two_cells HX.out
  obtain ⟨y0, y1, _, _⟩ := two_cells HY.out
  go_wp2_with fail
  go_ret
  exact ⟨rfl, HB.out⟩
set_option maxRecDepth 100000 in
set_option maxHeartbeats 4000000 in
theorem lawMs_e3 (r r' : Int) (A A' : Option Addr) (n n' c c' : Nat) (xss yss : List (List Int)) (f g : Int) (hf : f ≠ 0) (hg0 : g ≠ 0) (hm1 : mixS r r' xss yss = (0, [], 0, f)) (hm2 : mixS r' r yss xss = (0, [], 0, g)) (hq : (chkS r xss != 0) = false) (hq2 : (chkS r' yss != 0) = false) (hq3 : (r != r') = true) (w : World) (hh : Hid (RowsAt w w.heap.size A n xss)) (hh' : Hid (RowsAt w w.heap.size A' n' yss)) :
    Calls Try.prog 3 #[.agg #[.int .i64 r, .slice A n c], .agg #[.int .i64 r', .slice A' n' c']] w fun e w' => e = .returned (.bool true) ∧ Below w.heap.size w w' := by
  obtain ⟨zr, hzr⟩ : ∃ z : Int, z = 0 := ⟨_, rfl⟩
  obtain ⟨zx, hzx⟩ : ∃ z : List (List Int), z = [] := ⟨_, rfl⟩
  rw [← hzx] at hm1 hm2
  have HM1 : Hid (mixS r r' xss yss = (zr, zx, 0, f)) := by show _ = _; rw [hm1, hzr]
  have HM2 : Hid (mixS r' r yss xss = (zr, zx, 0, g)) := by show _ = _; rw [hm2, hzr]
  have d1 : (f != 0) = true := by simpa using hf
  clear hm1 hm2 hzr hzx hf hg0
  obtain ⟨W0, gx, hW, hgx, HHW, HB, HSW⟩ := boxes2 w (.cells #[.int .i64 r, .slice A n c] 24) (.cells #[.int .i64 r', .slice A' n' c'] 24)
  have HX := Lib.hid HHW.out.1
  obtain ⟨gy, hgy⟩ : ∃ gy, gy = gx + 1 := ⟨_, rfl⟩
  have HY : Hid (W0.heap[gy]? = some (.cells #[.int .i64 r', .slice A' n' c'] 24 (0, 0))) := by rw [hgy]; exact HHW.out.2
  obtain ⟨x0, x1, _, _⟩ := two_cells HX.out
  obtain ⟨y0, y1, _, _⟩ := two_cells HY.out
  go_enter Try.func3, Try.ntmps3
  go_upto_region 1 with (fail)
  rw [← hW, ← hgx, ← hgy]
  clear hW HHW HSW
  have HGX : Hid (gx = w.heap.size) := hgx
  clear hgx hgy
  go_wp2_with fail
  refine (MIX_any r r' A A' n n' c c' xss yss _ w.heap.size HB.out.size (hh.out.below HB.out (Nat.le_refl _)) (hh'.out.below HB.out (Nat.le_refl _))).mono ?_
  rw [HM1.out]
  rintro e w1 ⟨v1, rfl, ho1, hb⟩
  obtain ⟨A1, c1, rfl, _, _⟩ := ho1.form
  dsimp only at ho1 ⊢
  clear x0 x1 y0 y1
  replace HX := Lib.hid ((hb.block gx (blk_lt HX.out)).trans HX.out)
  replace HY := Lib.hid ((hb.block gy (blk_lt HY.out)).trans HY.out)
  replace HB := Lib.hid (HB.out.trans (hb.mono HB.out.size))
  clear hb
  go_upto_region 2 with (fail)
  obtain ⟨X1, g5, hX, hg, B5, HBX⟩ := sbox_new w1 zr A1 zx.length c1 zx ho1.rows
  rw [← hX, ← hg]
  have hb := HBX.out
  have HG5 : Hid (w.heap.size ≤ g5 ∧ g5 ≠ gx) := ⟨by rw [hg]; exact HB.out.size, by rw [hg]; have := blk_lt HX.out; omega⟩
  replace HX := Lib.hid ((hb.block gx (blk_lt HX.out)).trans HX.out)
  replace HY := Lib.hid ((hb.block gy (blk_lt HY.out)).trans HY.out)
  replace HB := Lib.hid (HB.out.trans (hb.mono HB.out.size))
  clear hX hg HBX hb ho1
  obtain ⟨x0, x1, _, _⟩ := two_cells HX.out
  obtain ⟨y0, y1, _, _⟩ := two_cells HY.out
  go_wp2_with fail
  refine (MIX_any r' r A' A n' n c' c yss xss _ w.heap.size HB.out.size (hh'.out.below HB.out (Nat.le_refl _)) (hh.out.below HB.out (Nat.le_refl _))).mono ?_
  rw [HM2.out]
  rintro e w2 ⟨v2, rfl, ho2, hb⟩
  obtain ⟨A2, c2, rfl, _, _⟩ := ho2.form
  dsimp only at ho2 ⊢
  clear x0 x1 y0 y1
  replace B5 := Lib.hid (B5.out.below hb)
  replace HX := Lib.hid ((hb.block gx (blk_lt HX.out)).trans HX.out)
  replace HY := Lib.hid ((hb.block gy (blk_lt HY.out)).trans HY.out)
  replace HB := Lib.hid (HB.out.trans (hb.mono HB.out.size))
  clear hb
  go_upto_region 3 with (fail)
  obtain ⟨X2, g8, hX, hg, B8, HBX⟩ := sbox_new w2 zr A2 zx.length c2 zx ho2.rows
  rw [← hX, ← hg]
  have hb := HBX.out
  replace B5 := Lib.hid (B5.out.below hb)
  replace HX := Lib.hid ((hb.block gx (blk_lt HX.out)).trans HX.out)
  replace HY := Lib.hid ((hb.block gy (blk_lt HY.out)).trans HY.out)
  replace HB := Lib.hid (HB.out.trans (hb.mono HB.out.size))
  clear hX hg HBX hb ho2
  obtain ⟨p0, p1, _, _⟩ := sbox_cells B5.out
  obtain ⟨q0, q1, _, _⟩ := sbox_cells B8.out
  go_wp2_with fail
  refine (SAME_any _ _ _ _ _ _ _ _ zx zx _ X2.heap.size (Nat.le_refl _) B5.out.rows B8.out.rows).mono ?_
  rintro e w3 ⟨rfl, hb⟩
  rw [show sameS zr zx zr zx = true by simp [sameS]]
  replace B5 := Lib.hid (B5.out.below hb)
  replace HX := Lib.hid ((hb.block gx (blk_lt HX.out)).trans HX.out)
  replace HY := Lib.hid ((hb.block gy (blk_lt HY.out)).trans HY.out)
  replace HB := Lib.hid (HB.out.trans (hb.mono HB.out.size))
  clear hb p0 p1 q0 q1 B8
  go_wp2_with fail
  refine (AWAKE_any _).mono ?_
  rintro e w4 ⟨rfl, hb⟩
  replace B5 := Lib.hid (B5.out.below hb)
  replace HX := Lib.hid ((hb.block gx (blk_lt HX.out)).trans HX.out)
  replace HY := Lib.hid ((hb.block gy (blk_lt HY.out)).trans HY.out)
  replace HB := Lib.hid (HB.out.trans (hb.mono HB.out.size))
  clear hb
  obtain ⟨x0, x1, _, _⟩ := two_cells HX.out
  obtain ⟨y0, y1, _, _⟩ := two_cells HY.out
  go_wp2_with fail
  refine (CHECK_any r A n c xss _ w.heap.size HB.out.size (hh.out.below HB.out (Nat.le_refl _))).mono ?_
  rintro e w5 ⟨rfl, hb⟩
  clear x0 x1 y0 y1
  replace HX := Lib.hid ((hb.block gx (blk_lt HX.out)).trans HX.out)
  replace HY := Lib.hid ((hb.block gy (blk_lt HY.out)).trans HY.out)
  replace HB := Lib.hid (HB.out.trans (hb.mono HB.out.size))
  clear hb
  obtain ⟨x0, x1, _, _⟩ := two_cells HX.out
  obtain ⟨y0, y1, _, _⟩ := two_cells HY.out
  go_wp2_with fail
  refine (CHECK_any r' A' n' c' yss _ w.heap.size HB.out.size (hh'.out.below HB.out (Nat.le_refl _))).mono ?_
  rintro e w6 ⟨rfl, hb⟩
  clear x0 x1 y0 y1
  replace HX := Lib.hid ((hb.block gx (blk_lt HX.out)).trans HX.out)
  replace HY := Lib.hid ((hb.block gy (blk_lt HY.out)).trans HY.out)
  replace HB := Lib.hid (HB.out.trans (hb.mono HB.out.size))
  clear hb
  obtain ⟨x0, x1, _, _⟩ := two_cells HX.out
  obtain ⟨y0, y1, _, _⟩ := two_cells HY.out
  go_wp2_with fail
  go_ret
  exact ⟨rfl, HB.out⟩
set_option maxRecDepth 100000 in
set_option maxHeartbeats 4000000 in
theorem lawMs_e4 (r r' : Int) (A A' : Option Addr) (n n' c c' : Nat) (xss yss : List (List Int)) (f g : Int) (hf : f ≠ 0) (hg0 : g ≠ 0) (hm1 : mixS r r' xss yss = (0, [], 0, f)) (hm2 : mixS r' r yss xss = (0, [], 0, g)) (hq : (chkS r xss != 0) = false) (hq2 : (chkS r' yss != 0) = false) (hq3 : (r != r') = false) (hq4 : ((n : Int) != (n' : Int)) = true) (w : World) (hh : Hid (RowsAt w w.heap.size A n xss)) (hh' : Hid (RowsAt w w.heap.size A' n' yss)) :
    Calls Try.prog 3 #[.agg #[.int .i64 r, .slice A n c], .agg #[.int .i64 r', .slice A' n' c']] w fun e w' => e = .returned (.bool true) ∧ Below w.heap.size w w' := by
  obtain ⟨zr, hzr⟩ : ∃ z : Int, z = 0 := ⟨_, rfl⟩
  obtain ⟨zx, hzx⟩ : ∃ z : List (List Int), z = [] := ⟨_, rfl⟩
  rw [← hzx] at hm1 hm2
  have HM1 : Hid (mixS r r' xss yss = (zr, zx, 0, f)) := by show _ = _; rw [hm1, hzr]
  have HM2 : Hid (mixS r' r yss xss = (zr, zx, 0, g)) := by show _ = _; rw [hm2, hzr]
  have d1 : (f != 0) = true := by simpa using hf
  clear hm1 hm2 hzr hzx hf hg0
  obtain ⟨W0, gx, hW, hgx, HHW, HB, HSW⟩ := boxes2 w (.cells #[.int .i64 r, .slice A n c] 24) (.cells #[.int .i64 r', .slice A' n' c'] 24)
  have HX := Lib.hid HHW.out.1
  obtain ⟨gy, hgy⟩ : ∃ gy, gy = gx + 1 := ⟨_, rfl⟩
  have HY : Hid (W0.heap[gy]? = some (.cells #[.int .i64 r', .slice A' n' c'] 24 (0, 0))) := by rw [hgy]; exact HHW.out.2
  obtain ⟨x0, x1, _, _⟩ := two_cells HX.out
  obtain ⟨y0, y1, _, _⟩ := two_cells HY.out
  go_enter Try.func3, Try.ntmps3
  go_upto_region 1 with (fail)
  rw [← hW, ← hgx, ← hgy]
  clear hW HHW HSW
  have HGX : Hid (gx = w.heap.size) := hgx
  clear hgx hgy
  go_wp2_with fail
  refine (MIX_any r r' A A' n n' c c' xss yss _ w.heap.size HB.out.size (hh.out.below HB.out (Nat.le_refl _)) (hh'.out.below HB.out (Nat.le_refl _))).mono ?_
  rw [HM1.out]
  rintro e w1 ⟨v1, rfl, ho1, hb⟩
  obtain ⟨A1, c1, rfl, _, _⟩ := ho1.form
  dsimp only at ho1 ⊢
  clear x0 x1 y0 y1
  replace HX := Lib.hid ((hb.block gx (blk_lt HX.out)).trans HX.out)
  replace HY := Lib.hid ((hb.block gy (blk_lt HY.out)).trans HY.out)
  replace HB := Lib.hid (HB.out.trans (hb.mono HB.out.size))
  clear hb
  go_upto_region 2 with (fail)
  obtain ⟨X1, g5, hX, hg, B5, HBX⟩ := sbox_new w1 zr A1 zx.length c1 zx ho1.rows
  rw [← hX, ← hg]
  have hb := HBX.out
  have HG5 : Hid (w.heap.size ≤ g5 ∧ g5 ≠ gx) := ⟨by rw [hg]; exact HB.out.size, by rw [hg]; have := blk_lt HX.out; omega⟩
  replace HX := Lib.hid ((hb.block gx (blk_lt HX.out)).trans HX.out)
  replace HY := Lib.hid ((hb.block gy (blk_lt HY.out)).trans HY.out)
  replace HB := Lib.hid (HB.out.trans (hb.mono HB.out.size))
  clear hX hg HBX hb ho1
  obtain ⟨x0, x1, _, _⟩ := two_cells HX.out
  obtain ⟨y0, y1, _, _⟩ := two_cells HY.out
  go_wp2_with fail
  refine (MIX_any r' r A' A n' n c' c yss xss _ w.heap.size HB.out.size (hh'.out.below HB.out (Nat.le_refl _)) (hh.out.below HB.out (Nat.le_refl _))).mono ?_
  rw [HM2.out]
  rintro e w2 ⟨v2, rfl, ho2, hb⟩
  obtain ⟨A2, c2, rfl, _, _⟩ := ho2.form
  dsimp only at ho2 ⊢
  clear x0 x1 y0 y1
  replace B5 := Lib.hid (B5.out.below hb)
  replace HX := Lib.hid ((hb.block gx (blk_lt HX.out)).trans HX.out)
  replace HY := Lib.hid ((hb.block gy (blk_lt HY.out)).trans HY.out)
  replace HB := Lib.hid (HB.out.trans (hb.mono HB.out.size))
  clear hb
  go_upto_region 3 with (fail)
  obtain ⟨X2, g8, hX, hg, B8, HBX⟩ := sbox_new w2 zr A2 zx.length c2 zx ho2.rows
  rw [← hX, ← hg]
  have hb := HBX.out
  replace B5 := Lib.hid (B5.out.below hb)
  replace HX := Lib.hid ((hb.block gx (blk_lt HX.out)).trans HX.out)
  replace HY := Lib.hid ((hb.block gy (blk_lt HY.out)).trans HY.out)
  replace HB := Lib.hid (HB.out.trans (hb.mono HB.out.size))
  clear hX hg HBX hb ho2
  obtain ⟨p0, p1, _, _⟩ := sbox_cells B5.out
  obtain ⟨q0, q1, _, _⟩ := sbox_cells B8.out
  go_wp2_with fail
  refine (SAME_any _ _ _ _ _ _ _ _ zx zx _ X2.heap.size (Nat.le_refl _) B5.out.rows B8.out.rows).mono ?_
  rintro e w3 ⟨rfl, hb⟩
  rw [show sameS zr zx zr zx = true by simp [sameS]]
  replace B5 := Lib.hid (B5.out.below hb)
  replace HX := Lib.hid ((hb.block gx (blk_lt HX.out)).trans HX.out)
  replace HY := Lib.hid ((hb.block gy (blk_lt HY.out)).trans HY.out)
  replace HB := Lib.hid (HB.out.trans (hb.mono HB.out.size))
  clear hb p0 p1 q0 q1 B8
  go_wp2_with fail
  refine (AWAKE_any _).mono ?_
  rintro e w4 ⟨rfl, hb⟩
  replace B5 := Lib.hid (B5.out.below hb)
  replace HX := Lib.hid ((hb.block gx (blk_lt HX.out)).trans HX.out)
  replace HY := Lib.hid ((hb.block gy (blk_lt HY.out)).trans HY.out)
  replace HB := Lib.hid (HB.out.trans (hb.mono HB.out.size))
  clear hb
  obtain ⟨x0, x1, _, _⟩ := two_cells HX.out
  obtain ⟨y0, y1, _, _⟩ := two_cells HY.out
  go_wp2_with fail
  refine (CHECK_any r A n c xss _ w.heap.size HB.out.size (hh.out.below HB.out (Nat.le_refl _))).mono ?_
  rintro e w5 ⟨rfl, hb⟩
  clear x0 x1 y0 y1
  replace HX := Lib.hid ((hb.block gx (blk_lt HX.out)).trans HX.out)
  replace HY := Lib.hid ((hb.block gy (blk_lt HY.out)).trans HY.out)
  replace HB := Lib.hid (HB.out.trans (hb.mono HB.out.size))
  clear hb
  obtain ⟨x0, x1, _, _⟩ := two_cells HX.out
  obtain ⟨y0, y1, _, _⟩ := two_cells HY.out
  go_wp2_with fail
  refine (CHECK_any r' A' n' c' yss _ w.heap.size HB.out.size (hh'.out.below HB.out (Nat.le_refl _))).mono ?_
  rintro e w6 ⟨rfl, hb⟩
  clear x0 x1 y0 y1
  replace HX := Lib.hid ((hb.block gx (blk_lt HX.out)).trans HX.out)
  replace HY := Lib.hid ((hb.block gy (blk_lt HY.out)).trans HY.out)
  replace HB := Lib.hid (HB.out.trans (hb.mono HB.out.size))
  clear hb
  obtain ⟨x0, x1, _, _⟩ := two_cells HX.out
  obtain ⟨y0, y1, _, _⟩ := two_cells HY.out
  go_wp2_with fail
  go_ret
  exact ⟨rfl, HB.out⟩
set_option maxRecDepth 100000 in
set_option maxHeartbeats 4000000 in
theorem lawMs_ok (r r' : Int) (A A' : Option Addr) (n n' c c' : Nat) (xss yss : List (List Int)) (zx : List (List Int)) (m : Int) (hok : OkS r xss) (hm1 : mixS r r' xss yss = (r, zx, m, 0)) (hm2 : mixS r' r yss xss = (r, zx, m, 0)) (w : World) (hh : Hid (RowsAt w w.heap.size A n xss)) (hh' : Hid (RowsAt w w.heap.size A' n' yss)) :
    Calls Try.prog 3 #[.agg #[.int .i64 r, .slice A n c], .agg #[.int .i64 r', .slice A' n' c']] w fun e w' => e = .returned (.bool true) ∧ Below w.heap.size w w' := by
  obtain ⟨zr, hzr⟩ : ∃ z : Int, z = r := ⟨_, rfl⟩
  have HM1 : Hid (mixS r r' xss yss = (zr, zx, m, 0)) := by show _ = _; rw [hm1, hzr]
  have HM2 : Hid (mixS r' r yss xss = (zr, zx, m, 0)) := by show _ = _; rw [hm2, hzr]
  have hl := hh.out.1
  have HSIL : Hid (silS r (n : Nat) (len0 xss : Nat) = (r, zeroS xss.length (len0 xss), 0)) := by show _ = _; rw [← hl]; exact sil_ok hok
  have HMZ := Lib.hid (mix_silent hok)
  obtain ⟨ys, hys⟩ : ∃ ys, xss.map (List.map (gnV (-1))) = ys := ⟨_, rfl⟩
  obtain ⟨cnt, hcnt⟩ : ∃ cnt, stS (gnU (-1)) 0 xss = cnt := ⟨_, rfl⟩
  have HCNT : Hid (0 ≤ cnt) := by show _ ≤ _; rw [← hcnt]; exact (gnU_rows (-1) xss 0).1
  have HGN : Hid (gainS r xss ⟨#[45, 49]⟩ ⟨#[49]⟩ = (r, ys, cnt, 0)) := by show _ = _; rw [gain_neg hok, hys, hcnt]
  have HAG : Hid (cnt = 0 → mixS r r xss ys = (r, zeroS xss.length (len0 xss), 0, 0)) := fun h => by rw [← hys]; exact mix_against hok (hcnt.trans h)
  clear hm1 hm2 hzr hl hys hcnt hok
  obtain ⟨W0, gx, hW, hgx, HHW, HB, HSW⟩ := boxes2 w (.cells #[.int .i64 r, .slice A n c] 24) (.cells #[.int .i64 r', .slice A' n' c'] 24)
  have HX := Lib.hid HHW.out.1
  obtain ⟨gy, hgy⟩ : ∃ gy, gy = gx + 1 := ⟨_, rfl⟩
  have HY : Hid (W0.heap[gy]? = some (.cells #[.int .i64 r', .slice A' n' c'] 24 (0, 0))) := by rw [hgy]; exact HHW.out.2
  obtain ⟨x0, x1, _, _⟩ := two_cells HX.out
  obtain ⟨y0, y1, _, _⟩ := two_cells HY.out
  go_enter Try.func3, Try.ntmps3
  go_upto_region 1 with (fail)
  rw [← hW, ← hgx, ← hgy]
  clear hW HHW HSW
  have HGX : Hid (gx = w.heap.size) := hgx
  clear hgx hgy
  go_wp2_with fail
  refine (MIX_any r r' A A' n n' c c' xss yss _ w.heap.size HB.out.size (hh.out.below HB.out (Nat.le_refl _)) (hh'.out.below HB.out (Nat.le_refl _))).mono ?_
  rw [HM1.out]
  rintro e w1 ⟨v1, rfl, ho1, hb⟩
  obtain ⟨A1, c1, rfl, _, _⟩ := ho1.form
  dsimp only at ho1 ⊢
  clear x0 x1 y0 y1
  replace HX := Lib.hid ((hb.block gx (blk_lt HX.out)).trans HX.out)
  replace HY := Lib.hid ((hb.block gy (blk_lt HY.out)).trans HY.out)
  replace HB := Lib.hid (HB.out.trans (hb.mono HB.out.size))
  clear hb
  go_upto_region 2 with (fail)
  obtain ⟨X1, g5, hX, hg, B5, HBX⟩ := sbox_new w1 zr A1 zx.length c1 zx ho1.rows
  rw [← hX, ← hg]
  have hb := HBX.out
  have HG5 : Hid (w.heap.size ≤ g5 ∧ g5 ≠ gx) := ⟨by rw [hg]; exact HB.out.size, by rw [hg]; have := blk_lt HX.out; omega⟩
  replace HX := Lib.hid ((hb.block gx (blk_lt HX.out)).trans HX.out)
  replace HY := Lib.hid ((hb.block gy (blk_lt HY.out)).trans HY.out)
  replace HB := Lib.hid (HB.out.trans (hb.mono HB.out.size))
  clear hX hg HBX hb ho1
  obtain ⟨x0, x1, _, _⟩ := two_cells HX.out
  obtain ⟨y0, y1, _, _⟩ := two_cells HY.out
  go_wp2_with fail
  refine (MIX_any r' r A' A n' n c' c yss xss _ w.heap.size HB.out.size (hh'.out.below HB.out (Nat.le_refl _)) (hh.out.below HB.out (Nat.le_refl _))).mono ?_
  rw [HM2.out]
  rintro e w2 ⟨v2, rfl, ho2, hb⟩
  obtain ⟨A2, c2, rfl, _, _⟩ := ho2.form
  dsimp only at ho2 ⊢
  clear x0 x1 y0 y1
  replace B5 := Lib.hid (B5.out.below hb)
  replace HX := Lib.hid ((hb.block gx (blk_lt HX.out)).trans HX.out)
  replace HY := Lib.hid ((hb.block gy (blk_lt HY.out)).trans HY.out)
  replace HB := Lib.hid (HB.out.trans (hb.mono HB.out.size))
  clear hb
  go_upto_region 3 with (fail)
  obtain ⟨X2, g8, hX, hg, B8, HBX⟩ := sbox_new w2 zr A2 zx.length c2 zx ho2.rows
  rw [← hX, ← hg]
  have hb := HBX.out
  replace B5 := Lib.hid (B5.out.below hb)
  replace HX := Lib.hid ((hb.block gx (blk_lt HX.out)).trans HX.out)
  replace HY := Lib.hid ((hb.block gy (blk_lt HY.out)).trans HY.out)
  replace HB := Lib.hid (HB.out.trans (hb.mono HB.out.size))
  clear hX hg HBX hb ho2
  obtain ⟨p0, p1, _, _⟩ := sbox_cells B5.out
  obtain ⟨q0, q1, _, _⟩ := sbox_cells B8.out
  go_wp2_with fail
  refine (SAME_any _ _ _ _ _ _ _ _ zx zx _ X2.heap.size (Nat.le_refl _) B5.out.rows B8.out.rows).mono ?_
  rintro e w3 ⟨rfl, hb⟩
  rw [show sameS zr zx zr zx = true by simp [sameS]]
  replace B5 := Lib.hid (B5.out.below hb)
  replace HX := Lib.hid ((hb.block gx (blk_lt HX.out)).trans HX.out)
  replace HY := Lib.hid ((hb.block gy (blk_lt HY.out)).trans HY.out)
  replace HB := Lib.hid (HB.out.trans (hb.mono HB.out.size))
  clear hb p0 p1 q0 q1 B8
  go_wp2_with fail
  refine (AWAKE_any _).mono ?_
  rintro e w4 ⟨rfl, hb⟩
  replace B5 := Lib.hid (B5.out.below hb)
  replace HX := Lib.hid ((hb.block gx (blk_lt HX.out)).trans HX.out)
  replace HY := Lib.hid ((hb.block gy (blk_lt HY.out)).trans HY.out)
  replace HB := Lib.hid (HB.out.trans (hb.mono HB.out.size))
  clear hb
  obtain ⟨x0, x1, _, _⟩ := two_cells HX.out
  obtain ⟨y0, y1, _, _⟩ := two_cells HY.out
  go_upto_region 7 with (fail)
  obtain ⟨W, rfl⟩ : ∃ x : World, x = w4 := ⟨_, rfl⟩
  have H5 := Lib.hid B5.out.box
  have HRW := Lib.hid (hh.out.below HB.out (Nat.le_refl _))
  have HBW := HB
  have hlx := blk_lt HX.out
  have HLX : Hid (gx < W.heap.size ∧ g5 < W.heap.size) := ⟨hlx, blk_lt H5.out⟩
  clear y0 y1 HY
  refine wp_region_text 12 (fun x9 => x9.cell? ⟨gx, 0, none⟩ = some (.int .i64 r) ∧ x9.cell? ⟨gx, 1, none⟩ = some (.slice A n c)) (by kernel_rfl) (by kernel_rfl) ?_
  obtain ⟨wc, hwc⟩ : ∃ x : World, x = W.drew := ⟨_, rfl⟩
  have hbn : Below W.heap.size W W.drew := (Below.refl _ _).drew
  have HX := Lib.hid ((hbn.block gx (blk_lt HX.out)).trans HX.out)
  have H5 := Lib.hid ((hbn.block g5 (blk_lt H5.out)).trans H5.out)
  clear hbn
  have HBc : Hid (Below W.heap.size W wc) := by show Below _ _ _; rw [hwc]; exact (Below.refl _ _).drew
  have hS : wc.cell? ⟨gx, 0, none⟩ = some (.int .i64 r) ∧ wc.cell? ⟨gx, 1, none⟩ = some (.slice A n c) := by rw [hwc]; exact ⟨x0, x1⟩
  have hg_0 : gx < wc.heap.size := by rw [hwc]; exact hlx
  rw [← hwc] at HX H5
  rw [← hwc]
  clear hwc
  refine HT.take (i := 0) (oi := _) (v := ?_) rfl (by kernel_rfl) (by kernel_rfl) (by decide) (fun _ _ _ h => h) (Or.inl ⟨by rfl, ?_⟩) hS ?_
  rotate_left
  · intro wz
    go_simp
    try with_reducible rfl
  simp only [List.getElem_toArray, List.getElem_cons_succ, List.getElem_cons_zero, Act.put, List.setIfInBounds_toArray, List.set_cons_zero, List.set_cons_succ]
  refine HT.load (i := 1) (oi := _) (v := ?_) rfl (by kernel_rfl) (by kernel_rfl) (by decide) (fun _ _ _ h => h) (by kernel_rfl) (Or.inl ⟨by rfl, ?_⟩) hS ?_
  rotate_left
  · intro wz hwz
    try dsimp only at hwz
    go_simp
    try with_reducible rfl
  simp only [List.getElem_toArray, List.getElem_cons_succ, List.getElem_cons_zero, Act.put, List.setIfInBounds_toArray, List.set_cons_zero, List.set_cons_succ]
  refine HT.take (i := 2) (oi := _) (v := ?_) rfl (by kernel_rfl) (by kernel_rfl) (by decide) (fun _ _ _ h => h) (Or.inl ⟨by rfl, ?_⟩) hS ?_
  rotate_left
  · intro wz
    go_simp
    try with_reducible rfl
  simp only [List.getElem_toArray, List.getElem_cons_succ, List.getElem_cons_zero, Act.put, List.setIfInBounds_toArray, List.set_cons_zero, List.set_cons_succ]
  refine HT.load (i := 3) (oi := _) (v := ?_) rfl (by kernel_rfl) (by kernel_rfl) (by decide) (fun _ _ _ h => h) (by kernel_rfl) (Or.inl ⟨by rfl, ?_⟩) hS ?_
  rotate_left
  · intro wz hwz
    try dsimp only at hwz
    go_simp
    try with_reducible rfl
  simp only [List.getElem_toArray, List.getElem_cons_succ, List.getElem_cons_zero, Act.put, List.setIfInBounds_toArray, List.set_cons_zero, List.set_cons_succ]
  refine HT.take (i := 4) (oi := _) (v := ?_) rfl (by kernel_rfl) (by kernel_rfl) (by decide) (fun _ _ _ h => h) (Or.inl ⟨by rfl, ?_⟩) hS ?_
  rotate_left
  · intro wz
    go_simp
    try with_reducible rfl
  simp only [List.getElem_toArray, List.getElem_cons_succ, List.getElem_cons_zero, Act.put, List.setIfInBounds_toArray, List.set_cons_zero, List.set_cons_succ]
  refine HT.load (i := 5) (oi := _) (v := ?_) rfl (by kernel_rfl) (by kernel_rfl) (by decide) (fun _ _ _ h => h) (by kernel_rfl) (Or.inl ⟨by rfl, ?_⟩) hS ?_
  rotate_left
  · intro wz hwz
    try dsimp only at hwz
    go_simp
    try with_reducible rfl
  simp only [List.getElem_toArray, List.getElem_cons_succ, List.getElem_cons_zero, Act.put, List.setIfInBounds_toArray, List.set_cons_zero, List.set_cons_succ]
  refine HT.two 6 11 (o := _) (o' := _) rfl rfl (by kernel_rfl) (by decide) (by decide) (by rfl) (by rfl) ?_ ?_
  · intro K hK
    go_simp
    refine (LLONG_any r A n c xss _ w.heap.size (Nat.le_trans HBW.out.size HBc.out.size) (HRW.out.below HBc.out HBW.out.size)).mono ?_
    rintro e wn ⟨rfl, hbn⟩
    replace HX := Lib.hid ((hbn.block gx (blk_lt HX.out)).trans HX.out)
    replace H5 := Lib.hid ((hbn.block g5 (blk_lt H5.out)).trans H5.out)
    have HBn := Lib.hid (HBc.out.trans (hbn.mono HBc.out.size))
    have hSn : wn.cell? ⟨gx, 0, none⟩ = some (.int .i64 r) ∧ wn.cell? ⟨gx, 1, none⟩ = some (.slice A n c) := ⟨(hbn.cell (p := ⟨gx, 0, none⟩) hg_0).trans hS.1, (hbn.cell (p := ⟨gx, 1, none⟩) hg_0).trans hS.2⟩
    have hgn_0 := Nat.lt_of_lt_of_le hg_0 hbn.size
    refine hK.out _ _ hSn ?_
    clear hK K hS HBc hg_0
    try simp only [List.getElem_toArray, List.getElem_cons_succ, List.getElem_cons_zero, Act.put, List.setIfInBounds_toArray, List.set_cons_zero, List.set_cons_succ]
    have hS := hSn
    have HBc := HBn
    have hg_0 := hgn_0
    clear hSn HBn hbn hgn_0
    obtain ⟨wc, rfl⟩ : ∃ x : World, x = wn := ⟨_, rfl⟩
    refine HT.two 7 11 (o := _) (o' := _) rfl rfl (by kernel_rfl) (by decide) (by decide) (by rfl) (by rfl) ?_ ?_
    · intro K hK
      go_simp
      refine (SILENCE_any r n (len0 xss : Nat) _).mono ?_
      rintro e wn ⟨v2, rfl, hO2, hbn⟩
      rw [HSIL.out] at hO2 ⊢
      dsimp only at hO2 ⊢
      obtain ⟨A2, c2, rfl, _, _⟩ := hO2.form
      replace hO2 := hO2.base (show W.heap.size ≤ wc.heap.size from HBc.out.size)
      have O2 := Lib.hid hO2
      clear hO2
      replace HX := Lib.hid ((hbn.block gx (blk_lt HX.out)).trans HX.out)
      replace H5 := Lib.hid ((hbn.block g5 (blk_lt H5.out)).trans H5.out)
      have HBn := Lib.hid (HBc.out.trans (hbn.mono HBc.out.size))
      have hSn : wn.cell? ⟨gx, 0, none⟩ = some (.int .i64 r) ∧ wn.cell? ⟨gx, 1, none⟩ = some (.slice A n c) := ⟨(hbn.cell (p := ⟨gx, 0, none⟩) hg_0).trans hS.1, (hbn.cell (p := ⟨gx, 1, none⟩) hg_0).trans hS.2⟩
      have hgn_0 := Nat.lt_of_lt_of_le hg_0 hbn.size
      refine hK.out _ _ hSn ?_
      clear hK K hS HBc hg_0
      try simp only [List.getElem_toArray, List.getElem_cons_succ, List.getElem_cons_zero, Act.put, List.setIfInBounds_toArray, List.set_cons_zero, List.set_cons_succ]
      have hS := hSn
      have HBc := HBn
      have hg_0 := hgn_0
      clear hSn HBn hbn hgn_0
      obtain ⟨wc, rfl⟩ : ∃ x : World, x = wn := ⟨_, rfl⟩
      refine HT.take (i := 8) (oi := _) (v := ?_) rfl (by kernel_rfl) (by kernel_rfl) (by decide) (fun _ _ _ h => h) (Or.inl ⟨by rfl, ?_⟩) hS ?_
      rotate_left
      · intro wz
        go_simp
        try with_reducible rfl
      simp only [List.getElem_toArray, List.getElem_cons_succ, List.getElem_cons_zero, Act.put, List.setIfInBounds_toArray, List.set_cons_zero, List.set_cons_succ]
      refine HT.take (i := 9) (oi := _) (v := ?_) rfl (by kernel_rfl) (by kernel_rfl) (by decide) (fun _ _ _ h => h) (Or.inl ⟨by rfl, ?_⟩) hS ?_
      rotate_left
      · intro wz
        go_simp
        try with_reducible rfl
      simp only [List.getElem_toArray, List.getElem_cons_succ, List.getElem_cons_zero, Act.put, List.setIfInBounds_toArray, List.set_cons_zero, List.set_cons_succ]
      refine HT.take (i := 10) (oi := _) (v := ?_) rfl (by kernel_rfl) (by kernel_rfl) (by decide) (fun _ _ _ h => h) (Or.inl ⟨by rfl, ?_⟩) hS ?_
      rotate_left
      · intro wz
        go_simp
        try with_reducible rfl
      simp only [List.getElem_toArray, List.getElem_cons_succ, List.getElem_cons_zero, Act.put, List.setIfInBounds_toArray, List.set_cons_zero, List.set_cons_succ]
      refine HT.one (i := 11) (o := _) rfl (by kernel_rfl) (by decide) (by rfl) ?_
      intro K hK
      go_simp
      obtain ⟨wn, ga, hwn, hga9, hHA, hbn0, _⟩ := cell_new0 wc 24 #[.int .i64 0, .slice none 0 0]
      have hbn := hbn0.out
      have HGga : Hid (W.heap.size ≤ ga) := by show _ ≤ _; rw [hga9]; exact HBc.out.size
      have hne_gx_ga : gx ≠ ga := by have := blk_lt HX.out; omega
      have hne_g5_ga : g5 ≠ ga := by have := blk_lt H5.out; omega
      rw [← hwn, ← hga9]
      have HA := hHA
      clear hwn hga9 hbn0 hHA
      replace HX := Lib.hid ((hbn.block gx (blk_lt HX.out)).trans HX.out)
      replace H5 := Lib.hid ((hbn.block g5 (blk_lt H5.out)).trans H5.out)
      replace O2 := Lib.hid (O2.out.below hbn)
      have HBn := Lib.hid (HBc.out.trans (hbn.mono HBc.out.size))
      have hSn : wn.cell? ⟨gx, 0, none⟩ = some (.int .i64 r) ∧ wn.cell? ⟨gx, 1, none⟩ = some (.slice A n c) := ⟨(hbn.cell (p := ⟨gx, 0, none⟩) hg_0).trans hS.1, (hbn.cell (p := ⟨gx, 1, none⟩) hg_0).trans hS.2⟩
      have hgn_0 := Nat.lt_of_lt_of_le hg_0 hbn.size
      refine hK.out _ _ hSn ?_
      clear hK K hS HBc hg_0
      try simp only [List.getElem_toArray, List.getElem_cons_succ, List.getElem_cons_zero, Act.put, List.setIfInBounds_toArray, List.set_cons_zero, List.set_cons_succ]
      have hS := hSn
      have HBc := HBn
      have hg_0 := hgn_0
      clear hSn HBn hbn hgn_0
      obtain ⟨wc, rfl⟩ : ∃ x : World, x = wn := ⟨_, rfl⟩
      obtain ⟨x0, x1, _, _⟩ := two_cells HX.out
      obtain ⟨p0, p1, f0, f1⟩ := two_cells H5.out
      obtain ⟨a0, a1, fa0, fa1⟩ := two_cells HA.out
      have hla := blk_lt HA.out
      have hl5 := blk_lt H5.out
      have hlx' := blk_lt HX.out
      refine HT.done (by kernel_rfl) ?_
      clear hS
      simp only [List.drop_succ_cons, List.drop_zero]
      have hga9 := HGga.out
      have hnax : gx ≠ ga := by have := HLX.out; omega
      have hna5 : g5 ≠ ga := by have := HLX.out; omega
      have hl9 : (zeroS xss.length (len0 xss)).length = xss.length := zeroS_length _ _
      obtain ⟨zz, hzz⟩ : ∃ zz, zeroS xss.length (len0 xss) = zz := ⟨_, rfl⟩
      rw [hzz] at O2 ⊢
      have HZZ := Lib.hid hzz
      clear hzz hl9
      obtain ⟨V, hV⟩ : ∃ V : World, V = (wc.setCell ⟨ga, 0, none⟩ (.int .i64 r)).setCell ⟨ga, 1, none⟩ (.slice A2 zz.length c2) := ⟨_, rfl⟩
      have HXV : Hid (V.heap[gx]? = some (.cells #[.int .i64 r, .slice A n c] 24 (0, 0))) := by rw [hV]; exact box_far2 HX.out hnax _ _
      have H5V : Hid (V.heap[g5]? = some (.cells #[.int .i64 zr, .slice A1 zx.length c1] 24 (0, 0))) := by rw [hV]; exact box_far2 H5.out hna5 _ _
      have HAV : Hid (V.heap[ga]? = some (.cells #[.int .i64 r, .slice A2 zz.length c2] 24 (0, 0))) := by rw [hV]; exact heap_set2 HA.out
      have OV : Hid (OwnRows V W.heap.size (.slice A2 zz.length c2) zz) := by show OwnRows _ _ _ _; rw [hV]; exact own_set2_far O2.out HA.out _ _
      have HBV : Hid (Below w.heap.size w V) := by show Below _ _ _; rw [hV]; exact set2_below (HBW.out.trans (HBc.out.mono HBW.out.size)) (Nat.le_trans HBW.out.size hga9)
      go_upto_region 8 with (fail)
      rw [← hV]
      clear hV a0 a1 fa0 fa1 p0 p1 f0 f1 x0 x1
      obtain ⟨x0, x1, _, _⟩ := two_cells HXV.out
      obtain ⟨a0, a1, _, _⟩ := two_cells HAV.out
      go_wp2_with fail
      refine (MIX_any r r A A2 n zz.length c c2 xss zz _ V.heap.size (Nat.le_refl _) ((hh.out.below HBV.out (Nat.le_refl _)).mono HBV.out.size) OV.out.rows).mono ?_
      rw [← HZZ.out, HMZ.out]
      rintro e w7 ⟨v7, rfl, ho7, hb⟩
      obtain ⟨A7, c7, rfl, _, _⟩ := ho7.form
      dsimp only at ho7 ⊢
      rw [HZZ.out]
      have h5V9 := blk_lt H5V.out
      replace HXV := Lib.hid ((hb.block gx (blk_lt HXV.out)).trans HXV.out)
      replace H5V := Lib.hid ((hb.block g5 (blk_lt H5V.out)).trans H5V.out)
      replace HAV := Lib.hid ((hb.block ga (blk_lt HAV.out)).trans HAV.out)
      replace OV := Lib.hid (OV.out.below hb)
      have h5v : g5 < V.heap.size := h5V9
      replace HBV := Lib.hid (HBV.out.trans (hb.mono HBV.out.size))
      clear hb x0 x1 a0 a1
      obtain ⟨p0, p1, f0, f1⟩ := two_cells H5V.out
      have hl5v := blk_lt H5V.out
      go_upto_region 11 with (fail)
      obtain ⟨V2, hV2⟩ : ∃ V2 : World, V2 = (w7.setCell ⟨g5, 0, none⟩ (.int .i64 r)).setCell ⟨g5, 1, none⟩ (.slice A7 xss.length c7) := ⟨_, rfl⟩
      have H52 : Hid (V2.heap[g5]? = some (.cells #[.int .i64 r, .slice A7 xss.length c7] 24 (0, 0))) := by rw [hV2]; exact heap_set2 H5V.out
      have HX2 : Hid (V2.heap[gx]? = some (.cells #[.int .i64 r, .slice A n c] 24 (0, 0))) := by rw [hV2]; exact box_far2 HXV.out (Ne.symm HG5.out.2) _ _
      have HA2 : Hid (V2.heap[ga]? = some (.cells #[.int .i64 r, .slice A2 zz.length c2] 24 (0, 0))) := by rw [hV2]; exact box_far2 HAV.out (Ne.symm hna5) _ _
      have OV2 : Hid (OwnRows V2 W.heap.size (.slice A2 zz.length c2) zz) := by show OwnRows _ _ _ _; rw [hV2]; exact own_set2 OV.out HLX.out.2 _ _
      have O7 : Hid (OwnRows V2 V.heap.size (.slice A7 xss.length c7) xss) := by show OwnRows _ _ _ _; rw [hV2]; exact own_set2 ho7 h5v _ _
      have HB2 : Hid (Below w.heap.size w V2) := by show Below _ _ _; rw [hV2]; exact set2_below HBV.out HG5.out.1
      rw [← hV2]
      clear hV2 p0 p1 f0 f1 ho7 HXV HAV H5V OV HBV hl5v
      obtain ⟨x0, x1, _, _⟩ := two_cells HX2.out
      obtain ⟨p0, p1, _, _⟩ := two_cells H52.out
      go_wp2_with fail
      refine (SAME_any _ _ _ _ _ _ _ _ xss xss _ V2.heap.size (Nat.le_refl _) O7.out.rows ((hh.out.below HB2.out (Nat.le_refl _)).mono HB2.out.size)).mono ?_
      rintro e w8 ⟨rfl, hb⟩
      rw [show sameS r xss r xss = true by simp [sameS]]
      clear x0 x1 p0 p1 O7
      replace HX2 := Lib.hid ((hb.block gx (blk_lt HX2.out)).trans HX2.out)
      replace HA2 := Lib.hid ((hb.block ga (blk_lt HA2.out)).trans HA2.out)
      replace H52 := Lib.hid ((hb.block g5 (blk_lt H52.out)).trans H52.out)
      replace OV2 := Lib.hid (OV2.out.below hb)
      replace HB2 := Lib.hid (HB2.out.trans (hb.mono HB2.out.size))
      clear hb
      obtain ⟨x0, x1, _, _⟩ := two_cells HX2.out
      go_wp2_with fail
      refine (GAIN_any r A n c ⟨#[45, 49]⟩ ⟨#[49]⟩ (by decide) (by decide) xss _ w.heap.size HB2.out.size (hh.out.below HB2.out (Nat.le_refl _))).mono ?_
      rw [HGN.out]
      rintro e w9 ⟨v9, rfl, ho9, hb⟩
      obtain ⟨A9, c9, rfl, _, _⟩ := ho9.form
      dsimp only at ho9 ⊢
      clear x0 x1
      replace HX2 := Lib.hid ((hb.block gx (blk_lt HX2.out)).trans HX2.out)
      replace HA2 := Lib.hid ((hb.block ga (blk_lt HA2.out)).trans HA2.out)
      replace H52 := Lib.hid ((hb.block g5 (blk_lt H52.out)).trans H52.out)
      replace OV2 := Lib.hid (OV2.out.below hb)
      replace HB2 := Lib.hid (HB2.out.trans (hb.mono HB2.out.size))
      clear hb
      go_upto_region 14 with (fail)
      obtain ⟨V3, g12, hX, hg, H12, HBX, _⟩ := cell_new w9 24 #[.int .i64 r, .slice A9 ys.length c9]
      rw [← hX, ← hg]
      have hb := HBX.out
      have O9 := Lib.hid (ho9.below hb)
      have HG12 : Hid (g12 ≠ g5 ∧ g12 ≠ gx ∧ g12 ≠ ga) := ⟨by rw [hg]; have := blk_lt H52.out; omega, by rw [hg]; have := blk_lt HX2.out; omega, by rw [hg]; have := blk_lt HA2.out; omega⟩
      replace HX2 := Lib.hid ((hb.block gx (blk_lt HX2.out)).trans HX2.out)
      replace HA2 := Lib.hid ((hb.block ga (blk_lt HA2.out)).trans HA2.out)
      replace H52 := Lib.hid ((hb.block g5 (blk_lt H52.out)).trans H52.out)
      replace OV2 := Lib.hid (OV2.out.below hb)
      replace HB2 := Lib.hid (HB2.out.trans (hb.mono HB2.out.size))
      clear hb
      clear hX hg HBX ho9
      by_cases hc0 : 0 < cnt
      · have d9 : decide (0 < cnt) = true := by simpa using hc0
        clear hc0
        go_wp2_with fail
        go_ret
        exact ⟨rfl, HB2.out⟩
      · obtain rfl : cnt = 0 := by have := HCNT.out; omega
        have HMA := Lib.hid (HAG.out rfl)
        clear hc0
        obtain ⟨x0, x1, _, _⟩ := two_cells HX2.out
        obtain ⟨q0, q1, _, _⟩ := two_cells H12.out
        go_wp2_with fail
        refine (MIX_any r r A A9 n ys.length c c9 xss ys _ V3.heap.size (Nat.le_refl _) ((hh.out.below HB2.out (Nat.le_refl _)).mono HB2.out.size) O9.out.rows).mono ?_
        rw [HMA.out, HZZ.out]
        rintro e w10 ⟨v10, rfl, ho10, hb⟩
        obtain ⟨A10, c10, rfl, _, _⟩ := ho10.form
        dsimp only at ho10 ⊢
        clear x0 x1 q0 q1 O9 H12
        have hV3g := blk_lt H52.out
        replace HX2 := Lib.hid ((hb.block gx (blk_lt HX2.out)).trans HX2.out)
        replace HA2 := Lib.hid ((hb.block ga (blk_lt HA2.out)).trans HA2.out)
        replace H52 := Lib.hid ((hb.block g5 (blk_lt H52.out)).trans H52.out)
        replace OV2 := Lib.hid (OV2.out.below hb)
        replace HB2 := Lib.hid (HB2.out.trans (hb.mono HB2.out.size))
        clear hb
        obtain ⟨p0, p1, f0, f1⟩ := two_cells H52.out
        have hl5v := blk_lt H52.out
        go_upto_region 17 with (fail)
        obtain ⟨V4, hV4⟩ : ∃ V4 : World, V4 = (w10.setCell ⟨g5, 0, none⟩ (.int .i64 r)).setCell ⟨g5, 1, none⟩ (.slice A10 zz.length c10) := ⟨_, rfl⟩
        have H54 : Hid (V4.heap[g5]? = some (.cells #[.int .i64 r, .slice A10 zz.length c10] 24 (0, 0))) := by rw [hV4]; exact heap_set2 H52.out
        have HA4 : Hid (V4.heap[ga]? = some (.cells #[.int .i64 r, .slice A2 zz.length c2] 24 (0, 0))) := by rw [hV4]; exact box_far2 HA2.out (Ne.symm hna5) _ _
        have OV4 : Hid (OwnRows V4 W.heap.size (.slice A2 zz.length c2) zz) := by show OwnRows _ _ _ _; rw [hV4]; exact own_set2 OV2.out HLX.out.2 _ _
        have O10 : Hid (OwnRows V4 V3.heap.size (.slice A10 zz.length c10) zz) := by show OwnRows _ _ _ _; rw [hV4]; exact own_set2 ho10 hV3g _ _
        have HB4 : Hid (Below w.heap.size w V4) := by show Below _ _ _; rw [hV4]; exact set2_below HB2.out HG5.out.1
        rw [← hV4]
        clear hV4 p0 p1 f0 f1 ho10 HX2 HA2 H52 OV2 HB2 hl5v
        obtain ⟨a0, a1, _, _⟩ := two_cells HA4.out
        obtain ⟨p0, p1, _, _⟩ := two_cells H54.out
        go_wp2_with fail
        refine (SAME_any _ _ _ _ _ _ _ _ zz zz _ V4.heap.size (Nat.le_refl _) O10.out.rows OV4.out.rows).mono ?_
        rintro e w11 ⟨rfl, hb⟩
        rw [show sameS r zz r zz = true by simp [sameS]]
        replace HB4 := Lib.hid (HB4.out.trans (hb.mono HB4.out.size))
        clear hb p0 p1 a0 a1
        go_wp2_with fail
        go_ret
        exact ⟨rfl, HB4.out⟩
      -- HX H5 HA O2 HRW
    · intro K hK
      go_simp
      obtain ⟨wn, ga, hwn, hga9, hHA, hbn0, _⟩ := cell_new0 wc 24 #[.int .i64 0, .slice none 0 0]
      have hbn := hbn0.out
      have HGga : Hid (W.heap.size ≤ ga) := by show _ ≤ _; rw [hga9]; exact HBc.out.size
      have hne_gx_ga : gx ≠ ga := by have := blk_lt HX.out; omega
      have hne_g5_ga : g5 ≠ ga := by have := blk_lt H5.out; omega
      rw [← hwn, ← hga9]
      have HA := hHA
      clear hwn hga9 hbn0 hHA
      replace HX := Lib.hid ((hbn.block gx (blk_lt HX.out)).trans HX.out)
      replace H5 := Lib.hid ((hbn.block g5 (blk_lt H5.out)).trans H5.out)
      have HBn := Lib.hid (HBc.out.trans (hbn.mono HBc.out.size))
      have hSn : wn.cell? ⟨gx, 0, none⟩ = some (.int .i64 r) ∧ wn.cell? ⟨gx, 1, none⟩ = some (.slice A n c) := ⟨(hbn.cell (p := ⟨gx, 0, none⟩) hg_0).trans hS.1, (hbn.cell (p := ⟨gx, 1, none⟩) hg_0).trans hS.2⟩
      have hgn_0 := Nat.lt_of_lt_of_le hg_0 hbn.size
      refine hK.out _ _ hSn ?_
      clear hK K hS HBc hg_0
      try simp only [List.getElem_toArray, List.getElem_cons_succ, List.getElem_cons_zero, Act.put, List.setIfInBounds_toArray, List.set_cons_zero, List.set_cons_succ]
      have hS := hSn
      have HBc := HBn
      have hg_0 := hgn_0
      clear hSn HBn hbn hgn_0
      obtain ⟨wc, rfl⟩ : ∃ x : World, x = wn := ⟨_, rfl⟩
      refine HT.one (i := 7) (o := _) rfl (by kernel_rfl) (by decide) (by rfl) ?_
      intro K hK
      go_simp
      refine (SILENCE_any r n (len0 xss : Nat) _).mono ?_
      rintro e wn ⟨v2, rfl, hO2, hbn⟩
      rw [HSIL.out] at hO2 ⊢
      dsimp only at hO2 ⊢
      obtain ⟨A2, c2, rfl, _, _⟩ := hO2.form
      replace hO2 := hO2.base (show W.heap.size ≤ wc.heap.size from HBc.out.size)
      have O2 := Lib.hid hO2
      clear hO2
      replace HX := Lib.hid ((hbn.block gx (blk_lt HX.out)).trans HX.out)
      replace H5 := Lib.hid ((hbn.block g5 (blk_lt H5.out)).trans H5.out)
      replace HA := Lib.hid ((hbn.block ga (blk_lt HA.out)).trans HA.out)
      have HBn := Lib.hid (HBc.out.trans (hbn.mono HBc.out.size))
      have hSn : wn.cell? ⟨gx, 0, none⟩ = some (.int .i64 r) ∧ wn.cell? ⟨gx, 1, none⟩ = some (.slice A n c) := ⟨(hbn.cell (p := ⟨gx, 0, none⟩) hg_0).trans hS.1, (hbn.cell (p := ⟨gx, 1, none⟩) hg_0).trans hS.2⟩
      have hgn_0 := Nat.lt_of_lt_of_le hg_0 hbn.size
      refine hK.out _ _ hSn ?_
      clear hK K hS HBc hg_0
      try simp only [List.getElem_toArray, List.getElem_cons_succ, List.getElem_cons_zero, Act.put, List.setIfInBounds_toArray, List.set_cons_zero, List.set_cons_succ]
      have hS := hSn
      have HBc := HBn
      have hg_0 := hgn_0
      clear hSn HBn hbn hgn_0
      obtain ⟨wc, rfl⟩ : ∃ x : World, x = wn := ⟨_, rfl⟩
      refine HT.take (i := 8) (oi := _) (v := ?_) rfl (by kernel_rfl) (by kernel_rfl) (by decide) (fun _ _ _ h => h) (Or.inl ⟨by rfl, ?_⟩) hS ?_
      rotate_left
      · intro wz
        go_simp
        try with_reducible rfl
      simp only [List.getElem_toArray, List.getElem_cons_succ, List.getElem_cons_zero, Act.put, List.setIfInBounds_toArray, List.set_cons_zero, List.set_cons_succ]
      refine HT.take (i := 9) (oi := _) (v := ?_) rfl (by kernel_rfl) (by kernel_rfl) (by decide) (fun _ _ _ h => h) (Or.inl ⟨by rfl, ?_⟩) hS ?_
      rotate_left
      · intro wz
        go_simp
        try with_reducible rfl
      simp only [List.getElem_toArray, List.getElem_cons_succ, List.getElem_cons_zero, Act.put, List.setIfInBounds_toArray, List.set_cons_zero, List.set_cons_succ]
      refine HT.take (i := 10) (oi := _) (v := ?_) rfl (by kernel_rfl) (by kernel_rfl) (by decide) (fun _ _ _ h => h) (Or.inl ⟨by rfl, ?_⟩) hS ?_
      rotate_left
      · intro wz
        go_simp
        try with_reducible rfl
      simp only [List.getElem_toArray, List.getElem_cons_succ, List.getElem_cons_zero, Act.put, List.setIfInBounds_toArray, List.set_cons_zero, List.set_cons_succ]
      obtain ⟨x0, x1, _, _⟩ := two_cells HX.out
      obtain ⟨p0, p1, f0, f1⟩ := two_cells H5.out
      obtain ⟨a0, a1, fa0, fa1⟩ := two_cells HA.out
      have hla := blk_lt HA.out
      have hl5 := blk_lt H5.out
      have hlx' := blk_lt HX.out
      refine HT.done (by kernel_rfl) ?_
      clear hS
      simp only [List.drop_succ_cons, List.drop_zero]
      have hga9 := HGga.out
      have hnax : gx ≠ ga := by have := HLX.out; omega
      have hna5 : g5 ≠ ga := by have := HLX.out; omega
      have hl9 : (zeroS xss.length (len0 xss)).length = xss.length := zeroS_length _ _
      obtain ⟨zz, hzz⟩ : ∃ zz, zeroS xss.length (len0 xss) = zz := ⟨_, rfl⟩
      rw [hzz] at O2 ⊢
      have HZZ := Lib.hid hzz
      clear hzz hl9
      obtain ⟨V, hV⟩ : ∃ V : World, V = (wc.setCell ⟨ga, 0, none⟩ (.int .i64 r)).setCell ⟨ga, 1, none⟩ (.slice A2 zz.length c2) := ⟨_, rfl⟩
      have HXV : Hid (V.heap[gx]? = some (.cells #[.int .i64 r, .slice A n c] 24 (0, 0))) := by rw [hV]; exact box_far2 HX.out hnax _ _
      have H5V : Hid (V.heap[g5]? = some (.cells #[.int .i64 zr, .slice A1 zx.length c1] 24 (0, 0))) := by rw [hV]; exact box_far2 H5.out hna5 _ _
      have HAV : Hid (V.heap[ga]? = some (.cells #[.int .i64 r, .slice A2 zz.length c2] 24 (0, 0))) := by rw [hV]; exact heap_set2 HA.out
      have OV : Hid (OwnRows V W.heap.size (.slice A2 zz.length c2) zz) := by show OwnRows _ _ _ _; rw [hV]; exact own_set2_far O2.out HA.out _ _
      have HBV : Hid (Below w.heap.size w V) := by show Below _ _ _; rw [hV]; exact set2_below (HBW.out.trans (HBc.out.mono HBW.out.size)) (Nat.le_trans HBW.out.size hga9)
      go_upto_region 8 with (fail)
      rw [← hV]
      clear hV a0 a1 fa0 fa1 p0 p1 f0 f1 x0 x1
      obtain ⟨x0, x1, _, _⟩ := two_cells HXV.out
      obtain ⟨a0, a1, _, _⟩ := two_cells HAV.out
      go_wp2_with fail
      refine (MIX_any r r A A2 n zz.length c c2 xss zz _ V.heap.size (Nat.le_refl _) ((hh.out.below HBV.out (Nat.le_refl _)).mono HBV.out.size) OV.out.rows).mono ?_
      rw [← HZZ.out, HMZ.out]
      rintro e w7 ⟨v7, rfl, ho7, hb⟩
      obtain ⟨A7, c7, rfl, _, _⟩ := ho7.form
      dsimp only at ho7 ⊢
      rw [HZZ.out]
      have h5V9 := blk_lt H5V.out
      replace HXV := Lib.hid ((hb.block gx (blk_lt HXV.out)).trans HXV.out)
      replace H5V := Lib.hid ((hb.block g5 (blk_lt H5V.out)).trans H5V.out)
      replace HAV := Lib.hid ((hb.block ga (blk_lt HAV.out)).trans HAV.out)
      replace OV := Lib.hid (OV.out.below hb)
      have h5v : g5 < V.heap.size := h5V9
      replace HBV := Lib.hid (HBV.out.trans (hb.mono HBV.out.size))
      clear hb x0 x1 a0 a1
      obtain ⟨p0, p1, f0, f1⟩ := two_cells H5V.out
      have hl5v := blk_lt H5V.out
      go_upto_region 11 with (fail)
      obtain ⟨V2, hV2⟩ : ∃ V2 : World, V2 = (w7.setCell ⟨g5, 0, none⟩ (.int .i64 r)).setCell ⟨g5, 1, none⟩ (.slice A7 xss.length c7) := ⟨_, rfl⟩
      have H52 : Hid (V2.heap[g5]? = some (.cells #[.int .i64 r, .slice A7 xss.length c7] 24 (0, 0))) := by rw [hV2]; exact heap_set2 H5V.out
      have HX2 : Hid (V2.heap[gx]? = some (.cells #[.int .i64 r, .slice A n c] 24 (0, 0))) := by rw [hV2]; exact box_far2 HXV.out (Ne.symm HG5.out.2) _ _
      have HA2 : Hid (V2.heap[ga]? = some (.cells #[.int .i64 r, .slice A2 zz.length c2] 24 (0, 0))) := by rw [hV2]; exact box_far2 HAV.out (Ne.symm hna5) _ _
      have OV2 : Hid (OwnRows V2 W.heap.size (.slice A2 zz.length c2) zz) := by show OwnRows _ _ _ _; rw [hV2]; exact own_set2 OV.out HLX.out.2 _ _
      have O7 : Hid (OwnRows V2 V.heap.size (.slice A7 xss.length c7) xss) := by show OwnRows _ _ _ _; rw [hV2]; exact own_set2 ho7 h5v _ _
      have HB2 : Hid (Below w.heap.size w V2) := by show Below _ _ _; rw [hV2]; exact set2_below HBV.out HG5.out.1
      rw [← hV2]
      clear hV2 p0 p1 f0 f1 ho7 HXV HAV H5V OV HBV hl5v
      obtain ⟨x0, x1, _, _⟩ := two_cells HX2.out
      obtain ⟨p0, p1, _, _⟩ := two_cells H52.out
      go_wp2_with fail
      refine (SAME_any _ _ _ _ _ _ _ _ xss xss _ V2.heap.size (Nat.le_refl _) O7.out.rows ((hh.out.below HB2.out (Nat.le_refl _)).mono HB2.out.size)).mono ?_
      rintro e w8 ⟨rfl, hb⟩
      rw [show sameS r xss r xss = true by simp [sameS]]
      clear x0 x1 p0 p1 O7
      replace HX2 := Lib.hid ((hb.block gx (blk_lt HX2.out)).trans HX2.out)
      replace HA2 := Lib.hid ((hb.block ga (blk_lt HA2.out)).trans HA2.out)
      replace H52 := Lib.hid ((hb.block g5 (blk_lt H52.out)).trans H52.out)
      replace OV2 := Lib.hid (OV2.out.below hb)
      replace HB2 := Lib.hid (HB2.out.trans (hb.mono HB2.out.size))
      clear hb
      obtain ⟨x0, x1, _, _⟩ := two_cells HX2.out
      go_wp2_with fail
      refine (GAIN_any r A n c ⟨#[45, 49]⟩ ⟨#[49]⟩ (by decide) (by decide) xss _ w.heap.size HB2.out.size (hh.out.below HB2.out (Nat.le_refl _))).mono ?_
      rw [HGN.out]
      rintro e w9 ⟨v9, rfl, ho9, hb⟩
      obtain ⟨A9, c9, rfl, _, _⟩ := ho9.form
      dsimp only at ho9 ⊢
      clear x0 x1
      replace HX2 := Lib.hid ((hb.block gx (blk_lt HX2.out)).trans HX2.out)
      replace HA2 := Lib.hid ((hb.block ga (blk_lt HA2.out)).trans HA2.out)
      replace H52 := Lib.hid ((hb.block g5 (blk_lt H52.out)).trans H52.out)
      replace OV2 := Lib.hid (OV2.out.below hb)
      replace HB2 := Lib.hid (HB2.out.trans (hb.mono HB2.out.size))
      clear hb
      go_upto_region 14 with (fail)
      obtain ⟨V3, g12, hX, hg, H12, HBX, _⟩ := cell_new w9 24 #[.int .i64 r, .slice A9 ys.length c9]
      rw [← hX, ← hg]
      have hb := HBX.out
      have O9 := Lib.hid (ho9.below hb)
      have HG12 : Hid (g12 ≠ g5 ∧ g12 ≠ gx ∧ g12 ≠ ga) := ⟨by rw [hg]; have := blk_lt H52.out; omega, by rw [hg]; have := blk_lt HX2.out; omega, by rw [hg]; have := blk_lt HA2.out; omega⟩
      replace HX2 := Lib.hid ((hb.block gx (blk_lt HX2.out)).trans HX2.out)
      replace HA2 := Lib.hid ((hb.block ga (blk_lt HA2.out)).trans HA2.out)
      replace H52 := Lib.hid ((hb.block g5 (blk_lt H52.out)).trans H52.out)
      replace OV2 := Lib.hid (OV2.out.below hb)
      replace HB2 := Lib.hid (HB2.out.trans (hb.mono HB2.out.size))
      clear hb
      clear hX hg HBX ho9
      by_cases hc0 : 0 < cnt
      · have d9 : decide (0 < cnt) = true := by simpa using hc0
        clear hc0
        go_wp2_with fail
        go_ret
        exact ⟨rfl, HB2.out⟩
      · obtain rfl : cnt = 0 := by have := HCNT.out; omega
        have HMA := Lib.hid (HAG.out rfl)
        clear hc0
        obtain ⟨x0, x1, _, _⟩ := two_cells HX2.out
        obtain ⟨q0, q1, _, _⟩ := two_cells H12.out
        go_wp2_with fail
        refine (MIX_any r r A A9 n ys.length c c9 xss ys _ V3.heap.size (Nat.le_refl _) ((hh.out.below HB2.out (Nat.le_refl _)).mono HB2.out.size) O9.out.rows).mono ?_
        rw [HMA.out, HZZ.out]
        rintro e w10 ⟨v10, rfl, ho10, hb⟩
        obtain ⟨A10, c10, rfl, _, _⟩ := ho10.form
        dsimp only at ho10 ⊢
        clear x0 x1 q0 q1 O9 H12
        have hV3g := blk_lt H52.out
        replace HX2 := Lib.hid ((hb.block gx (blk_lt HX2.out)).trans HX2.out)
        replace HA2 := Lib.hid ((hb.block ga (blk_lt HA2.out)).trans HA2.out)
        replace H52 := Lib.hid ((hb.block g5 (blk_lt H52.out)).trans H52.out)
        replace OV2 := Lib.hid (OV2.out.below hb)
        replace HB2 := Lib.hid (HB2.out.trans (hb.mono HB2.out.size))
        clear hb
        obtain ⟨p0, p1, f0, f1⟩ := two_cells H52.out
        have hl5v := blk_lt H52.out
        go_upto_region 17 with (fail)
        obtain ⟨V4, hV4⟩ : ∃ V4 : World, V4 = (w10.setCell ⟨g5, 0, none⟩ (.int .i64 r)).setCell ⟨g5, 1, none⟩ (.slice A10 zz.length c10) := ⟨_, rfl⟩
        have H54 : Hid (V4.heap[g5]? = some (.cells #[.int .i64 r, .slice A10 zz.length c10] 24 (0, 0))) := by rw [hV4]; exact heap_set2 H52.out
        have HA4 : Hid (V4.heap[ga]? = some (.cells #[.int .i64 r, .slice A2 zz.length c2] 24 (0, 0))) := by rw [hV4]; exact box_far2 HA2.out (Ne.symm hna5) _ _
        have OV4 : Hid (OwnRows V4 W.heap.size (.slice A2 zz.length c2) zz) := by show OwnRows _ _ _ _; rw [hV4]; exact own_set2 OV2.out HLX.out.2 _ _
        have O10 : Hid (OwnRows V4 V3.heap.size (.slice A10 zz.length c10) zz) := by show OwnRows _ _ _ _; rw [hV4]; exact own_set2 ho10 hV3g _ _
        have HB4 : Hid (Below w.heap.size w V4) := by show Below _ _ _; rw [hV4]; exact set2_below HB2.out HG5.out.1
        rw [← hV4]
        clear hV4 p0 p1 f0 f1 ho10 HX2 HA2 H52 OV2 HB2 hl5v
        obtain ⟨a0, a1, _, _⟩ := two_cells HA4.out
        obtain ⟨p0, p1, _, _⟩ := two_cells H54.out
        go_wp2_with fail
        refine (SAME_any _ _ _ _ _ _ _ _ zz zz _ V4.heap.size (Nat.le_refl _) O10.out.rows OV4.out.rows).mono ?_
        rintro e w11 ⟨rfl, hb⟩
        rw [show sameS r zz r zz = true by simp [sameS]]
        replace HB4 := Lib.hid (HB4.out.trans (hb.mono HB4.out.size))
        clear hb p0 p1 a0 a1
        go_wp2_with fail
        go_ret
        exact ⟨rfl, HB4.out⟩
      -- HX H5 HA O2 HRW
  · intro K hK
    go_simp
    obtain ⟨wn, ga, hwn, hga9, hHA, hbn0, _⟩ := cell_new0 wc 24 #[.int .i64 0, .slice none 0 0]
    have hbn := hbn0.out
    have HGga : Hid (W.heap.size ≤ ga) := by show _ ≤ _; rw [hga9]; exact HBc.out.size
    have hne_gx_ga : gx ≠ ga := by have := blk_lt HX.out; omega
    have hne_g5_ga : g5 ≠ ga := by have := blk_lt H5.out; omega
    rw [← hwn, ← hga9]
    have HA := hHA
    clear hwn hga9 hbn0 hHA
    replace HX := Lib.hid ((hbn.block gx (blk_lt HX.out)).trans HX.out)
    replace H5 := Lib.hid ((hbn.block g5 (blk_lt H5.out)).trans H5.out)
    have HBn := Lib.hid (HBc.out.trans (hbn.mono HBc.out.size))
    have hSn : wn.cell? ⟨gx, 0, none⟩ = some (.int .i64 r) ∧ wn.cell? ⟨gx, 1, none⟩ = some (.slice A n c) := ⟨(hbn.cell (p := ⟨gx, 0, none⟩) hg_0).trans hS.1, (hbn.cell (p := ⟨gx, 1, none⟩) hg_0).trans hS.2⟩
    have hgn_0 := Nat.lt_of_lt_of_le hg_0 hbn.size
    refine hK.out _ _ hSn ?_
    clear hK K hS HBc hg_0
    try simp only [List.getElem_toArray, List.getElem_cons_succ, List.getElem_cons_zero, Act.put, List.setIfInBounds_toArray, List.set_cons_zero, List.set_cons_succ]
    have hS := hSn
    have HBc := HBn
    have hg_0 := hgn_0
    clear hSn HBn hbn hgn_0
    obtain ⟨wc, rfl⟩ : ∃ x : World, x = wn := ⟨_, rfl⟩
    refine HT.one (i := 6) (o := _) rfl (by kernel_rfl) (by decide) (by rfl) ?_
    intro K hK
    go_simp
    refine (LLONG_any r A n c xss _ w.heap.size (Nat.le_trans HBW.out.size HBc.out.size) (HRW.out.below HBc.out HBW.out.size)).mono ?_
    rintro e wn ⟨rfl, hbn⟩
    replace HX := Lib.hid ((hbn.block gx (blk_lt HX.out)).trans HX.out)
    replace H5 := Lib.hid ((hbn.block g5 (blk_lt H5.out)).trans H5.out)
    replace HA := Lib.hid ((hbn.block ga (blk_lt HA.out)).trans HA.out)
    have HBn := Lib.hid (HBc.out.trans (hbn.mono HBc.out.size))
    have hSn : wn.cell? ⟨gx, 0, none⟩ = some (.int .i64 r) ∧ wn.cell? ⟨gx, 1, none⟩ = some (.slice A n c) := ⟨(hbn.cell (p := ⟨gx, 0, none⟩) hg_0).trans hS.1, (hbn.cell (p := ⟨gx, 1, none⟩) hg_0).trans hS.2⟩
    have hgn_0 := Nat.lt_of_lt_of_le hg_0 hbn.size
    refine hK.out _ _ hSn ?_
    clear hK K hS HBc hg_0
    try simp only [List.getElem_toArray, List.getElem_cons_succ, List.getElem_cons_zero, Act.put, List.setIfInBounds_toArray, List.set_cons_zero, List.set_cons_succ]
    have hS := hSn
    have HBc := HBn
    have hg_0 := hgn_0
    clear hSn HBn hbn hgn_0
    obtain ⟨wc, rfl⟩ : ∃ x : World, x = wn := ⟨_, rfl⟩
    refine HT.one (i := 7) (o := _) rfl (by kernel_rfl) (by decide) (by rfl) ?_
    intro K hK
    go_simp
    refine (SILENCE_any r n (len0 xss : Nat) _).mono ?_
    rintro e wn ⟨v2, rfl, hO2, hbn⟩
    rw [HSIL.out] at hO2 ⊢
    dsimp only at hO2 ⊢
    obtain ⟨A2, c2, rfl, _, _⟩ := hO2.form
    replace hO2 := hO2.base (show W.heap.size ≤ wc.heap.size from HBc.out.size)
    have O2 := Lib.hid hO2
    clear hO2
    replace HX := Lib.hid ((hbn.block gx (blk_lt HX.out)).trans HX.out)
    replace H5 := Lib.hid ((hbn.block g5 (blk_lt H5.out)).trans H5.out)
    replace HA := Lib.hid ((hbn.block ga (blk_lt HA.out)).trans HA.out)
    have HBn := Lib.hid (HBc.out.trans (hbn.mono HBc.out.size))
    have hSn : wn.cell? ⟨gx, 0, none⟩ = some (.int .i64 r) ∧ wn.cell? ⟨gx, 1, none⟩ = some (.slice A n c) := ⟨(hbn.cell (p := ⟨gx, 0, none⟩) hg_0).trans hS.1, (hbn.cell (p := ⟨gx, 1, none⟩) hg_0).trans hS.2⟩
    have hgn_0 := Nat.lt_of_lt_of_le hg_0 hbn.size
    refine hK.out _ _ hSn ?_
    clear hK K hS HBc hg_0
    try simp only [List.getElem_toArray, List.getElem_cons_succ, List.getElem_cons_zero, Act.put, List.setIfInBounds_toArray, List.set_cons_zero, List.set_cons_succ]
    have hS := hSn
    have HBc := HBn
    have hg_0 := hgn_0
    clear hSn HBn hbn hgn_0
    obtain ⟨wc, rfl⟩ : ∃ x : World, x = wn := ⟨_, rfl⟩
    refine HT.take (i := 8) (oi := _) (v := ?_) rfl (by kernel_rfl) (by kernel_rfl) (by decide) (fun _ _ _ h => h) (Or.inl ⟨by rfl, ?_⟩) hS ?_
    rotate_left
    · intro wz
      go_simp
      try with_reducible rfl
    simp only [List.getElem_toArray, List.getElem_cons_succ, List.getElem_cons_zero, Act.put, List.setIfInBounds_toArray, List.set_cons_zero, List.set_cons_succ]
    refine HT.take (i := 9) (oi := _) (v := ?_) rfl (by kernel_rfl) (by kernel_rfl) (by decide) (fun _ _ _ h => h) (Or.inl ⟨by rfl, ?_⟩) hS ?_
    rotate_left
    · intro wz
      go_simp
      try with_reducible rfl
    simp only [List.getElem_toArray, List.getElem_cons_succ, List.getElem_cons_zero, Act.put, List.setIfInBounds_toArray, List.set_cons_zero, List.set_cons_succ]
    refine HT.take (i := 10) (oi := _) (v := ?_) rfl (by kernel_rfl) (by kernel_rfl) (by decide) (fun _ _ _ h => h) (Or.inl ⟨by rfl, ?_⟩) hS ?_
    rotate_left
    · intro wz
      go_simp
      try with_reducible rfl
    simp only [List.getElem_toArray, List.getElem_cons_succ, List.getElem_cons_zero, Act.put, List.setIfInBounds_toArray, List.set_cons_zero, List.set_cons_succ]
    obtain ⟨x0, x1, _, _⟩ := two_cells HX.out
    obtain ⟨p0, p1, f0, f1⟩ := two_cells H5.out
    obtain ⟨a0, a1, fa0, fa1⟩ := two_cells HA.out
    have hla := blk_lt HA.out
    have hl5 := blk_lt H5.out
    have hlx' := blk_lt HX.out
    refine HT.done (by kernel_rfl) ?_
    clear hS
    simp only [List.drop_succ_cons, List.drop_zero]
    have hga9 := HGga.out
    have hnax : gx ≠ ga := by have := HLX.out; omega
    have hna5 : g5 ≠ ga := by have := HLX.out; omega
    have hl9 : (zeroS xss.length (len0 xss)).length = xss.length := zeroS_length _ _
    obtain ⟨zz, hzz⟩ : ∃ zz, zeroS xss.length (len0 xss) = zz := ⟨_, rfl⟩
    rw [hzz] at O2 ⊢
    have HZZ := Lib.hid hzz
    clear hzz hl9
    obtain ⟨V, hV⟩ : ∃ V : World, V = (wc.setCell ⟨ga, 0, none⟩ (.int .i64 r)).setCell ⟨ga, 1, none⟩ (.slice A2 zz.length c2) := ⟨_, rfl⟩
    have HXV : Hid (V.heap[gx]? = some (.cells #[.int .i64 r, .slice A n c] 24 (0, 0))) := by rw [hV]; exact box_far2 HX.out hnax _ _
    have H5V : Hid (V.heap[g5]? = some (.cells #[.int .i64 zr, .slice A1 zx.length c1] 24 (0, 0))) := by rw [hV]; exact box_far2 H5.out hna5 _ _
    have HAV : Hid (V.heap[ga]? = some (.cells #[.int .i64 r, .slice A2 zz.length c2] 24 (0, 0))) := by rw [hV]; exact heap_set2 HA.out
    have OV : Hid (OwnRows V W.heap.size (.slice A2 zz.length c2) zz) := by show OwnRows _ _ _ _; rw [hV]; exact own_set2_far O2.out HA.out _ _
    have HBV : Hid (Below w.heap.size w V) := by show Below _ _ _; rw [hV]; exact set2_below (HBW.out.trans (HBc.out.mono HBW.out.size)) (Nat.le_trans HBW.out.size hga9)
    go_upto_region 8 with (fail)
    rw [← hV]
    clear hV a0 a1 fa0 fa1 p0 p1 f0 f1 x0 x1
    obtain ⟨x0, x1, _, _⟩ := two_cells HXV.out
    obtain ⟨a0, a1, _, _⟩ := two_cells HAV.out
    go_wp2_with fail
    refine (MIX_any r r A A2 n zz.length c c2 xss zz _ V.heap.size (Nat.le_refl _) ((hh.out.below HBV.out (Nat.le_refl _)).mono HBV.out.size) OV.out.rows).mono ?_
    rw [← HZZ.out, HMZ.out]
    rintro e w7 ⟨v7, rfl, ho7, hb⟩
    obtain ⟨A7, c7, rfl, _, _⟩ := ho7.form
    dsimp only at ho7 ⊢
    rw [HZZ.out]
    have h5V9 := blk_lt H5V.out
    replace HXV := Lib.hid ((hb.block gx (blk_lt HXV.out)).trans HXV.out)
    replace H5V := Lib.hid ((hb.block g5 (blk_lt H5V.out)).trans H5V.out)
    replace HAV := Lib.hid ((hb.block ga (blk_lt HAV.out)).trans HAV.out)
    replace OV := Lib.hid (OV.out.below hb)
    have h5v : g5 < V.heap.size := h5V9
    replace HBV := Lib.hid (HBV.out.trans (hb.mono HBV.out.size))
    clear hb x0 x1 a0 a1
    obtain ⟨p0, p1, f0, f1⟩ := two_cells H5V.out
    have hl5v := blk_lt H5V.out
    go_upto_region 11 with (fail)
    obtain ⟨V2, hV2⟩ : ∃ V2 : World, V2 = (w7.setCell ⟨g5, 0, none⟩ (.int .i64 r)).setCell ⟨g5, 1, none⟩ (.slice A7 xss.length c7) := ⟨_, rfl⟩
    have H52 : Hid (V2.heap[g5]? = some (.cells #[.int .i64 r, .slice A7 xss.length c7] 24 (0, 0))) := by rw [hV2]; exact heap_set2 H5V.out
    have HX2 : Hid (V2.heap[gx]? = some (.cells #[.int .i64 r, .slice A n c] 24 (0, 0))) := by rw [hV2]; exact box_far2 HXV.out (Ne.symm HG5.out.2) _ _
    have HA2 : Hid (V2.heap[ga]? = some (.cells #[.int .i64 r, .slice A2 zz.length c2] 24 (0, 0))) := by rw [hV2]; exact box_far2 HAV.out (Ne.symm hna5) _ _
    have OV2 : Hid (OwnRows V2 W.heap.size (.slice A2 zz.length c2) zz) := by show OwnRows _ _ _ _; rw [hV2]; exact own_set2 OV.out HLX.out.2 _ _
    have O7 : Hid (OwnRows V2 V.heap.size (.slice A7 xss.length c7) xss) := by show OwnRows _ _ _ _; rw [hV2]; exact own_set2 ho7 h5v _ _
    have HB2 : Hid (Below w.heap.size w V2) := by show Below _ _ _; rw [hV2]; exact set2_below HBV.out HG5.out.1
    rw [← hV2]
    clear hV2 p0 p1 f0 f1 ho7 HXV HAV H5V OV HBV hl5v
    obtain ⟨x0, x1, _, _⟩ := two_cells HX2.out
    obtain ⟨p0, p1, _, _⟩ := two_cells H52.out
    go_wp2_with fail
    refine (SAME_any _ _ _ _ _ _ _ _ xss xss _ V2.heap.size (Nat.le_refl _) O7.out.rows ((hh.out.below HB2.out (Nat.le_refl _)).mono HB2.out.size)).mono ?_
    rintro e w8 ⟨rfl, hb⟩
    rw [show sameS r xss r xss = true by simp [sameS]]
    clear x0 x1 p0 p1 O7
    replace HX2 := Lib.hid ((hb.block gx (blk_lt HX2.out)).trans HX2.out)
    replace HA2 := Lib.hid ((hb.block ga (blk_lt HA2.out)).trans HA2.out)
    replace H52 := Lib.hid ((hb.block g5 (blk_lt H52.out)).trans H52.out)
    replace OV2 := Lib.hid (OV2.out.below hb)
    replace HB2 := Lib.hid (HB2.out.trans (hb.mono HB2.out.size))
    clear hb
    obtain ⟨x0, x1, _, _⟩ := two_cells HX2.out
    go_wp2_with fail
    refine (GAIN_any r A n c ⟨#[45, 49]⟩ ⟨#[49]⟩ (by decide) (by decide) xss _ w.heap.size HB2.out.size (hh.out.below HB2.out (Nat.le_refl _))).mono ?_
    rw [HGN.out]
    rintro e w9 ⟨v9, rfl, ho9, hb⟩
    obtain ⟨A9, c9, rfl, _, _⟩ := ho9.form
    dsimp only at ho9 ⊢
    clear x0 x1
    replace HX2 := Lib.hid ((hb.block gx (blk_lt HX2.out)).trans HX2.out)
    replace HA2 := Lib.hid ((hb.block ga (blk_lt HA2.out)).trans HA2.out)
    replace H52 := Lib.hid ((hb.block g5 (blk_lt H52.out)).trans H52.out)
    replace OV2 := Lib.hid (OV2.out.below hb)
    replace HB2 := Lib.hid (HB2.out.trans (hb.mono HB2.out.size))
    clear hb
    go_upto_region 14 with (fail)
    obtain ⟨V3, g12, hX, hg, H12, HBX, _⟩ := cell_new w9 24 #[.int .i64 r, .slice A9 ys.length c9]
    rw [← hX, ← hg]
    have hb := HBX.out
    have O9 := Lib.hid (ho9.below hb)
    have HG12 : Hid (g12 ≠ g5 ∧ g12 ≠ gx ∧ g12 ≠ ga) := ⟨by rw [hg]; have := blk_lt H52.out; omega, by rw [hg]; have := blk_lt HX2.out; omega, by rw [hg]; have := blk_lt HA2.out; omega⟩
    replace HX2 := Lib.hid ((hb.block gx (blk_lt HX2.out)).trans HX2.out)
    replace HA2 := Lib.hid ((hb.block ga (blk_lt HA2.out)).trans HA2.out)
    replace H52 := Lib.hid ((hb.block g5 (blk_lt H52.out)).trans H52.out)
    replace OV2 := Lib.hid (OV2.out.below hb)
    replace HB2 := Lib.hid (HB2.out.trans (hb.mono HB2.out.size))
    clear hb
    clear hX hg HBX ho9
    by_cases hc0 : 0 < cnt
    · have d9 : decide (0 < cnt) = true := by simpa using hc0
      clear hc0
      go_wp2_with fail
      go_ret
      exact ⟨rfl, HB2.out⟩
    · obtain rfl : cnt = 0 := by have := HCNT.out; omega
      have HMA := Lib.hid (HAG.out rfl)
      clear hc0
      obtain ⟨x0, x1, _, _⟩ := two_cells HX2.out
      obtain ⟨q0, q1, _, _⟩ := two_cells H12.out
      go_wp2_with fail
      refine (MIX_any r r A A9 n ys.length c c9 xss ys _ V3.heap.size (Nat.le_refl _) ((hh.out.below HB2.out (Nat.le_refl _)).mono HB2.out.size) O9.out.rows).mono ?_
      rw [HMA.out, HZZ.out]
      rintro e w10 ⟨v10, rfl, ho10, hb⟩
      obtain ⟨A10, c10, rfl, _, _⟩ := ho10.form
      dsimp only at ho10 ⊢
      clear x0 x1 q0 q1 O9 H12
      have hV3g := blk_lt H52.out
      replace HX2 := Lib.hid ((hb.block gx (blk_lt HX2.out)).trans HX2.out)
      replace HA2 := Lib.hid ((hb.block ga (blk_lt HA2.out)).trans HA2.out)
      replace H52 := Lib.hid ((hb.block g5 (blk_lt H52.out)).trans H52.out)
      replace OV2 := Lib.hid (OV2.out.below hb)
      replace HB2 := Lib.hid (HB2.out.trans (hb.mono HB2.out.size))
      clear hb
      obtain ⟨p0, p1, f0, f1⟩ := two_cells H52.out
      have hl5v := blk_lt H52.out
      go_upto_region 17 with (fail)
      obtain ⟨V4, hV4⟩ : ∃ V4 : World, V4 = (w10.setCell ⟨g5, 0, none⟩ (.int .i64 r)).setCell ⟨g5, 1, none⟩ (.slice A10 zz.length c10) := ⟨_, rfl⟩
      have H54 : Hid (V4.heap[g5]? = some (.cells #[.int .i64 r, .slice A10 zz.length c10] 24 (0, 0))) := by rw [hV4]; exact heap_set2 H52.out
      have HA4 : Hid (V4.heap[ga]? = some (.cells #[.int .i64 r, .slice A2 zz.length c2] 24 (0, 0))) := by rw [hV4]; exact box_far2 HA2.out (Ne.symm hna5) _ _
      have OV4 : Hid (OwnRows V4 W.heap.size (.slice A2 zz.length c2) zz) := by show OwnRows _ _ _ _; rw [hV4]; exact own_set2 OV2.out HLX.out.2 _ _
      have O10 : Hid (OwnRows V4 V3.heap.size (.slice A10 zz.length c10) zz) := by show OwnRows _ _ _ _; rw [hV4]; exact own_set2 ho10 hV3g _ _
      have HB4 : Hid (Below w.heap.size w V4) := by show Below _ _ _; rw [hV4]; exact set2_below HB2.out HG5.out.1
      rw [← hV4]
      clear hV4 p0 p1 f0 f1 ho10 HX2 HA2 H52 OV2 HB2 hl5v
      obtain ⟨a0, a1, _, _⟩ := two_cells HA4.out
      obtain ⟨p0, p1, _, _⟩ := two_cells H54.out
      go_wp2_with fail
      refine (SAME_any _ _ _ _ _ _ _ _ zz zz _ V4.heap.size (Nat.le_refl _) O10.out.rows OV4.out.rows).mono ?_
      rintro e w11 ⟨rfl, hb⟩
      rw [show sameS r zz r zz = true by simp [sameS]]
      replace HB4 := Lib.hid (HB4.out.trans (hb.mono HB4.out.size))
      clear hb p0 p1 a0 a1
      go_wp2_with fail
      go_ret
      exact ⟨rfl, HB4.out⟩
    -- HX H5 HA O2 HRW
theorem lawMs_walk (r r' : Int) (A A' : Option Addr) (n n' c c' : Nat) (xss yss : List (List Int)) (w : World) (hh : Hid (RowsAt w w.heap.size A n xss)) (hh' : Hid (RowsAt w w.heap.size A' n' yss)) :
    Calls Try.prog 3 #[.agg #[.int .i64 r, .slice A n c], .agg #[.int .i64 r', .slice A' n' c']] w fun e w' => e = .returned (.bool true) ∧ Below w.heap.size w w' := by
  rcases mix_comm r r' xss yss with ⟨f, g, h1, h2, h3, h4, h5⟩ | ⟨z, m, h1, h2, h3, h4, h5⟩
  · by_cases k1 : chkS r xss = 0
    · by_cases k2 : chkS r' yss = 0
      · by_cases k3 : r = r'
        · have k4 : n ≠ n' := fun e => by
            subst k3
            exact h5 (both2_mk k1 k2 (by rw [hh.out.1, hh'.out.1, e]))
          exact lawMs_e4 r r' A A' n n' c c' xss yss f g h1 h2 h3 h4 (by simp [k1]) (by simp [k2]) (by simp [k3]) (by simp; omega) w hh hh'
        · exact lawMs_e3 r r' A A' n n' c c' xss yss f g h1 h2 h3 h4 (by simp [k1]) (by simp [k2]) (by simpa using k3) w hh hh'
      · exact lawMs_e2 r r' A A' n n' c c' xss yss f g h1 h2 h3 h4 (by simp [k1]) (by simpa using k2) w hh hh'
    · exact lawMs_e1 r r' A A' n n' c c' xss yss f g h1 h2 h3 h4 (by simpa using k1) w hh hh'
  · exact lawMs_ok r r' A A' n n' c c' xss yss z m h2 h4 h5 w hh hh'
end Go.Proofs.Ytnhmhjhfoonakaa
