/- ClockFitMatchesSpec, walked. -/
import Derived.Test.YtocbogdjlapogaaGreatDoorRft
import Derived.Test.YtocbogdjlapogaaGreatDoorAwk
set_option linter.unusedSimpArgs false
set_option linter.unusedVariables false
namespace Go.Proofs.YtocbogdjlapogaaGreatDoor
open Go.RowKit Go.Dw Go.Joins
set_option maxRecDepth 100000 in
set_option maxHeartbeats 4000000 in
theorem RFIT_any (A : Option Addr) (n c : Nat) (l : List Pr) (wo : World) (hto : Hid (TabAt wo)) (B : Nat) (hBo : B ≤ wo.heap.size) (hho : Hid (PrsAt wo B A n l)) :
    Calls Tryz.prog 5 #[.slice A n c] wo fun e w' => e = .returned (lineV (chkP l) l) ∧ Below wo.heap.size wo w' := by
  by_cases h : chkP l = 0
  · refine (RFIT_ok A n c l wo hto B hBo hho (Lib.hid h)).mono ?_
    rintro e w' ⟨rfl, hb⟩
    exact ⟨by rw [h]; rfl, hb⟩
  · obtain ⟨x, hx⟩ : ∃ x, chkP l = x := ⟨_, rfl⟩
    have HX := Lib.hid hx
    have hq : (x != 0) = true := by rw [← hx]; simpa using h
    have HV : Hid (lineV x l = .tuple #[.agg #[.string ⟨#[]⟩, .string ⟨#[]⟩, .string ⟨#[]⟩, .string ⟨#[]⟩], .int .i64 x]) := by show _ = _; unfold lineV; rw [if_neg (by rw [← hx]; exact h)]
    rw [hx]
    clear hx h
    obtain ⟨w, gl, hw, hgl, HHL, HBL, HSL⟩ := cell_new0 wo 26 #[.string ⟨#[]⟩, .string ⟨#[]⟩, .string ⟨#[]⟩, .string ⟨#[]⟩]
    have hh : Hid (PrsAt w B A n l) := hho.out.below HBL.out hBo
    have hB : B ≤ w.heap.size := by have := HBL.out.size; omega
    have hglo : wo.heap.size ≤ gl := by omega
    go_enter Tryz.func5, Tryz.ntmps5
    go_upto_region 1 with (fail)
    rw [← hw, ← hgl]
    clear hw hgl HSL
    go_upto_region 3 with (go_at_call 18; refine (RCHECKPAIRS_any A n c l _ B hB hh).mono ?_; rintro e w1 ⟨rfl, hb1⟩; rw [HX.out])
    have HL1 := Lib.hid ((hb1.block gl (blk_lt HHL.out)).trans HHL.out)
    obtain ⟨c0, c1, c2, c3, f0, f1, f2, f3⟩ := four_cells HL1.out
    have HBF := Lib.hid (HBL.out.trans (hb1.mono HBL.out.size))
    clear hb1
    go_wp2_with fail
    obtain ⟨e0, e1, e2, e3, _⟩ := four_cells (box4_heap (v0 := .string ⟨#[]⟩) (v1 := .string ⟨#[]⟩) (v2 := .string ⟨#[]⟩) (v3 := .string ⟨#[]⟩) HL1.out)
    refine bodyPost_ret (res_line (p := 2) (u := 3) rfl rfl e0 e1 e2 e3) rfl ⟨?_, (((HBF.out.setCell (p := ⟨gl, 0, none⟩) hglo _).setCell (p := ⟨gl, 1, none⟩) hglo _).setCell (p := ⟨gl, 2, none⟩) hglo _).setCell (p := ⟨gl, 3, none⟩) hglo _⟩
    rw [HV.out]
    rfl
theorem lineV_form (x : Int) (l : List Pr) : ∃ s0 s1 s2 s3 : ByteArray, lineV x l = .tuple #[.agg #[.string s0, .string s1, .string s2, .string s3], .int .i64 x] := by
  unfold lineV
  by_cases h : x = 0
  · rw [if_pos h]; exact ⟨_, _, _, _, rfl⟩
  · rw [if_neg h]; exact ⟨_, _, _, _, rfl⟩
set_option maxRecDepth 100000 in
set_option maxHeartbeats 4000000 in
theorem lawFm_walk (A : Option Addr) (n c : Nat) (l : List Pr) (w : World) (ht : Hid (TabAt w)) (hh : Hid (PrsAt w w.heap.size A n l)) :
    Calls Tryz.prog 3 #[.slice A n c] w fun e w' => e = .returned (.bool true) ∧ Below w.heap.size w w' := by
  obtain ⟨x, hx⟩ : ∃ x, chkP l = x := ⟨_, rfl⟩
  obtain ⟨s0, s1, s2, s3, hL⟩ := lineV_form x l
  rw [← hx] at hL
  have HL := Lib.hid hL
  rw [hx] at HL
  have HX := Lib.hid hx
  clear hL hx
  have hxx : (x == x) = true := by simp
  go_enter Tryz.func3, Tryz.ntmps3
  go_wp2_with fail
  refine (FIT_any A n c l _ w.heap.size (Nat.le_refl _) hh).mono ?_
  rw [HX.out, HL.out]
  rintro e w1 ⟨rfl, hb1⟩
  have HB := Lib.hid hb1
  clear hb1
  go_upto_region 2 with (fail)
  obtain ⟨W1, g1, hW1, hg1, HG1, HBW1, HSW1⟩ := cell_new0 w1 26 #[.string s0, .string s1, .string s2, .string s3]
  rw [← hW1, ← hg1]
  replace HB := Lib.hid (HB.out.trans (HBW1.out.mono HB.out.size))
  clear hW1 hg1 HBW1 HSW1
  go_wp2_with fail
  refine (RFIT_any A n c l _ (Lib.hid (ht.out.below HB.out)) w.heap.size HB.out.size (Lib.hid (hh.out.below HB.out (Nat.le_refl _)))).mono ?_
  rw [HX.out, HL.out]
  rintro e w2 ⟨rfl, hb2⟩
  have HG2 := Lib.hid ((hb2.block g1 (blk_lt HG1.out)).trans HG1.out)
  replace HB := Lib.hid (HB.out.trans (hb2.mono HB.out.size))
  clear hb2 HG1
  go_upto_region 3 with (fail)
  obtain ⟨W3, g3, hW3, hg3, HG3, HBW3, HSW3⟩ := cell_new0 w2 26 #[.string s0, .string s1, .string s2, .string s3]
  rw [← hW3, ← hg3]
  have HG4 := Lib.hid ((HBW3.out.block g1 (blk_lt HG2.out)).trans HG2.out)
  replace HB := Lib.hid (HB.out.trans (HBW3.out.mono HB.out.size))
  clear hW3 hg3 HBW3 HSW3 HG2
  obtain ⟨c0, c1, c2, c3, _⟩ := four_cells HG4.out
  obtain ⟨d0, d1, d2, d3, _⟩ := four_cells HG3.out
  go_wp2_with fail
  refine (AWAKE_any _).mono ?_
  rintro e w4 ⟨rfl, hb4⟩
  replace HB := Lib.hid (HB.out.trans (hb4.mono HB.out.size))
  clear hb4
  go_wp2_with fail
  go_ret
  exact ⟨rfl, HB.out⟩
end Go.Proofs.YtocbogdjlapogaaGreatDoor
