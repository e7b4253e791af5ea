/- ClockTempoMatchesSpec, walked. -/
import Derived.Test.YthjmhdnamhifjaaDoorSmq
import Derived.Test.YthjmhdnamhifjaaDoorAwk
set_option linter.unusedSimpArgs false
set_option linter.unusedVariables false
namespace Go.Proofs.YthjmhdnamhifjaaDoor
open Go.RowKit Go.Dw Go.Joins
set_option maxRecDepth 100000 in
set_option maxHeartbeats 4000000 in
theorem lawTp_walk (A A' : Option Addr) (n c n' c' : Nat) (l ms : List Pr) (rate t s : Int) (hn : n ≤ 8796093022207) (hn' : n' ≤ 8796093022207) (w : World) (ht9 : Hid (TabAt w)) (hh : Hid (PrsAt w w.heap.size A n l)) (hh' : Hid (PrsAt w w.heap.size A' n' ms)) :
    Calls Tryd.prog 4 #[.agg #[.slice A n c, .slice A' n' c'], .int .i64 rate, .int .i64 t, .int .i64 s] w fun e w' => e = .returned (.bool true) ∧ Below w.heap.size w w' := by
  obtain ⟨W, gx, hW, hgx, HHW, HBW, HSW⟩ := rcell_new w 36 #[.slice A n c, .slice A' n' c']
  have hgW := blk_lt HHW.out
  have hW0 := own_cell1 HHW.out 0
  have hW1 := own_cell1 HHW.out 1
  simp only [List.getElem?_toArray, List.getElem?_cons_zero, List.getElem?_cons_succ] at hW0 hW1
  have HC := Lib.hid (And.intro hW0 hW1)
  have HPW : Hid (PrsAt W W.heap.size A n l) := (hh.out.below HBW.out (Nat.le_refl _)).mono (by have := HSW.out; omega)
  have HPW' : Hid (PrsAt W W.heap.size A' n' ms) := (hh'.out.below HBW.out (Nat.le_refl _)).mono (by have := HSW.out; omega)
  have HTW := Lib.hid (ht9.out.below HBW.out)
  have HB0 : Hid (Below W.heap.size W W) := Below.refl _ _
  go_enter Tryd.func4, Tryd.ntmps4
  go_upto_region 1 with (fail)
  rw [← hW, ← hgx]
  clear hW hgx HSW
  obtain ⟨⟨a, f⟩, hv⟩ : ∃ p, sampS l ms rate t = p := ⟨_, rfl⟩
  have HV := Lib.hid hv
  clear hv
  go_wp2_with fail
  refine (SAMPLEAT_any A A' n c n' c' l ms rate t hn hn' _ W.heap.size (Nat.le_refl _) HPW HPW').mono ?_
  rintro e w1 ⟨he, hb1⟩
  rw [HV.out] at he
  unfold retS at he
  dsimp only at he
  subst he
  clear hW0 hW1
  have HB1 := Lib.hid (HB0.out.trans (hb1.mono HB0.out.size))
  have c0 := (HB1.out.cell (p := ⟨gx, 0, none⟩) hgW).trans HC.out.1
  have c1 := (HB1.out.cell (p := ⟨gx, 1, none⟩) hgW).trans HC.out.2
  have hg1 := Nat.lt_of_lt_of_le hgW HB1.out.size
  have P1 : Hid (PrsAt w1 w1.heap.size A n l) := (HPW.out.below HB1.out (Nat.le_refl _)).mono HB1.out.size
  have P1' : Hid (PrsAt w1 w1.heap.size A' n' ms) := (HPW'.out.below HB1.out (Nat.le_refl _)).mono HB1.out.size
  clear hb1
  go_wp2_with fail
  refine (RSAMPLEAT_any A A' n c n' c' l ms rate t _ (Lib.hid (HTW.out.below HB1.out)) w1.heap.size (Nat.le_refl _) P1 P1').mono ?_
  rintro e w2 ⟨he, hb2⟩
  rw [HV.out] at he
  unfold retS at he
  dsimp only at he
  subst he
  clear c0 c1 P1 P1'
  have HB2 := Lib.hid (HB1.out.trans (hb2.mono HB1.out.size))
  have c0 := (HB2.out.cell (p := ⟨gx, 0, none⟩) hgW).trans HC.out.1
  have c1 := (HB2.out.cell (p := ⟨gx, 1, none⟩) hgW).trans HC.out.2
  have hg2 := Nat.lt_of_lt_of_le hgW HB2.out.size
  have P2 : Hid (PrsAt w2 w2.heap.size A n l) := (HPW.out.below HB2.out (Nat.le_refl _)).mono HB2.out.size
  have P2' : Hid (PrsAt w2 w2.heap.size A' n' ms) := (HPW'.out.below HB2.out (Nat.le_refl _)).mono HB2.out.size
  clear hb2
  go_wp2_with fail
  refine (TICKAT_any A A' n c n' c' l ms rate s hn hn' _ w2.heap.size (Nat.le_refl _) P2 P2').mono ?_
  rintro e w3 ⟨⟨b, g⟩, he, hq, hb3⟩
  have HQ := Lib.hid hq
  unfold retS at he
  dsimp only at he
  subst he
  clear c0 c1 P2 P2' hq
  have HB3 := Lib.hid (HB2.out.trans (hb3.mono HB2.out.size))
  have c0 := (HB3.out.cell (p := ⟨gx, 0, none⟩) hgW).trans HC.out.1
  have c1 := (HB3.out.cell (p := ⟨gx, 1, none⟩) hgW).trans HC.out.2
  have hg3 := Nat.lt_of_lt_of_le hgW HB3.out.size
  have P3 : Hid (PrsAt w3 w3.heap.size A n l) := (HPW.out.below HB3.out (Nat.le_refl _)).mono HB3.out.size
  have P3' : Hid (PrsAt w3 w3.heap.size A' n' ms) := (HPW'.out.below HB3.out (Nat.le_refl _)).mono HB3.out.size
  clear hb3
  go_wp2_with fail
  refine (RTICKAT_any A A' n c n' c' l ms rate s _ (Lib.hid (HTW.out.below HB3.out)) w3.heap.size (Nat.le_refl _) P3 P3').mono ?_
  rintro e w4 ⟨q, he, hq, hb4⟩
  obtain rfl := outT_one HQ.out hq
  unfold retS at he
  dsimp only at he
  subst he
  clear c0 c1 P3 P3' hq HQ HV
  have HB4 := Lib.hid (HB3.out.trans (hb4.mono HB3.out.size))
  have c0 := (HB4.out.cell (p := ⟨gx, 0, none⟩) hgW).trans HC.out.1
  have c1 := (HB4.out.cell (p := ⟨gx, 1, none⟩) hgW).trans HC.out.2
  have hg4 := Nat.lt_of_lt_of_le hgW HB4.out.size
  have P4 : Hid (PrsAt w4 w4.heap.size A n l) := (HPW.out.below HB4.out (Nat.le_refl _)).mono HB4.out.size
  have P4' : Hid (PrsAt w4 w4.heap.size A' n' ms) := (HPW'.out.below HB4.out (Nat.le_refl _)).mono HB4.out.size
  clear hb4
  obtain ⟨x, hx⟩ : ∃ x, chkT l ms = x := ⟨_, rfl⟩
  have HX := Lib.hid hx
  clear hx
  go_upto_region 5 with (fail)
  obtain ⟨X, rfl⟩ : ∃ Wx : World, Wx = w4 := ⟨_, rfl⟩
  refine wp_region_text 29 (fun x => x.cell? ⟨gx, 0, none⟩ = some (.slice A n c) ∧ x.cell? ⟨gx, 1, none⟩ = some (.slice A' n' c')) (by kernel_rfl) (by kernel_rfl) ?_
  have hS : X.drew.cell? ⟨gx, 0, none⟩ = some (.slice A n c) ∧ X.drew.cell? ⟨gx, 1, none⟩ = some (.slice A' n' c') := ⟨c0, c1⟩
  refine HT.load (i := 0) (oi := _) (v := ?_) rfl (by kernel_rfl) (by kernel_rfl) (by decide) (fun _ _ _ h => h) (by kernel_rfl) (Or.inl ⟨by rfl, ?_⟩) hS ?_
  rotate_left
  · intro wz hwz
    try dsimp only at hwz
    go_simp
    try with_reducible rfl
  simp only [List.getElem_toArray, List.getElem_cons_succ, List.getElem_cons_zero, Act.put, List.setIfInBounds_toArray, List.set_cons_zero, List.set_cons_succ]
  refine HT.load (i := 2) (oi := _) (v := ?_) rfl (by kernel_rfl) (by kernel_rfl) (by decide) (fun _ _ _ h => h) (by kernel_rfl) (Or.inl ⟨by rfl, ?_⟩) hS ?_
  rotate_left
  · intro wz hwz
    try dsimp only at hwz
    go_simp
    try with_reducible rfl
  simp only [List.getElem_toArray, List.getElem_cons_succ, List.getElem_cons_zero, Act.put, List.setIfInBounds_toArray, List.set_cons_zero, List.set_cons_succ]
  refine HT.one (i := 1) (o := _) rfl (by kernel_rfl) (by decide) (by rfl) ?_
  intro K hK
  go_simp
  refine (CHECKTEMPO_any A A' n c n' c' l ms hn hn' X.drew X.heap.size (Nat.le_refl _) (Lib.hid (P4.out.below ((Below.refl X.heap.size X).drew) (Nat.le_refl _))) (Lib.hid (P4'.out.below ((Below.refl X.heap.size X).drew) (Nat.le_refl _)))).mono ?_
  rintro e w5 ⟨rfl, hb5⟩
  replace hb5 : Below X.heap.size X w5 := below_undrew hb5
  have HB5 := Lib.hid hb5
  rw [HX.out]
  refine hK.out _ _ ⟨(hb5.cell (p := ⟨gx, 0, none⟩) hg4).trans c0, (hb5.cell (p := ⟨gx, 1, none⟩) hg4).trans c1⟩ ?_
  clear hK K hS
  have hS := And.intro ((hb5.cell (p := ⟨gx, 0, none⟩) hg4).trans c0) ((hb5.cell (p := ⟨gx, 1, none⟩) hg4).trans c1)
  clear hb5
  try simp only [List.getElem_toArray, List.getElem_cons_succ, List.getElem_cons_zero, Act.put, List.setIfInBounds_toArray, List.set_cons_zero, List.set_cons_succ]
  refine HT.one (i := 3) (o := _) rfl (by kernel_rfl) (by decide) (by rfl) ?_
  intro K hK
  go_simp
  refine (RCHECKTEMPO_any A A' n c n' c' l ms _ w5.heap.size (Nat.le_refl _) (Lib.hid ((P4.out.below HB5.out (Nat.le_refl _)).mono HB5.out.size)) (Lib.hid ((P4'.out.below HB5.out (Nat.le_refl _)).mono HB5.out.size))).mono ?_
  rintro e w6 ⟨rfl, hb6⟩
  have HB6 := Lib.hid (HB5.out.trans (hb6.mono HB5.out.size))
  rw [HX.out]
  clear hb6
  refine hK.out _ _ ⟨(HB6.out.cell (p := ⟨gx, 0, none⟩) hg4).trans c0, (HB6.out.cell (p := ⟨gx, 1, none⟩) hg4).trans c1⟩ ?_
  clear hK K hS
  have hS := And.intro ((HB6.out.cell (p := ⟨gx, 0, none⟩) hg4).trans c0) ((HB6.out.cell (p := ⟨gx, 1, none⟩) hg4).trans c1)
  try simp only [List.getElem_toArray, List.getElem_cons_succ, List.getElem_cons_zero, Act.put, List.setIfInBounds_toArray, List.set_cons_zero, List.set_cons_succ]
  refine HT.take (i := 4) (oi := _) (v := ?_) rfl (by kernel_rfl) (by kernel_rfl) (by decide) (fun _ _ _ h => h) (Or.inl ⟨by rfl, ?_⟩) hS ?_
  rotate_left
  · intro wz
    go_simp
    try with_reducible rfl
  simp only [List.getElem_toArray, List.getElem_cons_succ, List.getElem_cons_zero, Act.put, List.setIfInBounds_toArray, List.set_cons_zero, List.set_cons_succ]
  refine HT.take (i := 5) (oi := _) (v := ?_) rfl (by kernel_rfl) (by kernel_rfl) (by decide) (fun _ _ _ h => h) (Or.inl ⟨by rfl, ?_⟩) hS ?_
  rotate_left
  · intro wz
    go_simp
    try with_reducible rfl
  simp only [List.getElem_toArray, List.getElem_cons_succ, List.getElem_cons_zero, Act.put, List.setIfInBounds_toArray, List.set_cons_zero, List.set_cons_succ]
  refine HT.take (i := 6) (oi := _) (v := ?_) rfl (by kernel_rfl) (by kernel_rfl) (by decide) (fun _ _ _ h => h) (Or.inl ⟨by rfl, ?_⟩) hS ?_
  rotate_left
  · intro wz
    go_simp
    try with_reducible rfl
  simp only [List.getElem_toArray, List.getElem_cons_succ, List.getElem_cons_zero, Act.put, List.setIfInBounds_toArray, List.set_cons_zero, List.set_cons_succ]
  refine HT.take (i := 7) (oi := _) (v := ?_) rfl (by kernel_rfl) (by kernel_rfl) (by decide) (fun _ _ _ h => h) (Or.inl ⟨by rfl, ?_⟩) hS ?_
  rotate_left
  · intro wz
    go_simp
    try with_reducible rfl
  simp only [List.getElem_toArray, List.getElem_cons_succ, List.getElem_cons_zero, Act.put, List.setIfInBounds_toArray, List.set_cons_zero, List.set_cons_succ]
  refine HT.take (i := 8) (oi := _) (v := ?_) rfl (by kernel_rfl) (by kernel_rfl) (by decide) (fun _ _ _ h => h) (Or.inl ⟨by rfl, ?_⟩) hS ?_
  rotate_left
  · intro wz
    go_simp
    try with_reducible rfl
  simp only [List.getElem_toArray, List.getElem_cons_succ, List.getElem_cons_zero, Act.put, List.setIfInBounds_toArray, List.set_cons_zero, List.set_cons_succ]
  refine HT.take (i := 9) (oi := _) (v := ?_) rfl (by kernel_rfl) (by kernel_rfl) (by decide) (fun _ _ _ h => h) (Or.inl ⟨by rfl, ?_⟩) hS ?_
  rotate_left
  · intro wz
    go_simp
    try with_reducible rfl
  simp only [List.getElem_toArray, List.getElem_cons_succ, List.getElem_cons_zero, Act.put, List.setIfInBounds_toArray, List.set_cons_zero, List.set_cons_succ]
  refine HT.take (i := 10) (oi := _) (v := ?_) rfl (by kernel_rfl) (by kernel_rfl) (by decide) (fun _ _ _ h => h) (Or.inl ⟨by rfl, ?_⟩) hS ?_
  rotate_left
  · intro wz
    go_simp
    try with_reducible rfl
  simp only [List.getElem_toArray, List.getElem_cons_succ, List.getElem_cons_zero, Act.put, List.setIfInBounds_toArray, List.set_cons_zero, List.set_cons_succ]
  refine HT.take (i := 11) (oi := _) (v := ?_) rfl (by kernel_rfl) (by kernel_rfl) (by decide) (fun _ _ _ h => h) (Or.inl ⟨by rfl, ?_⟩) hS ?_
  rotate_left
  · intro wz
    go_simp
    try with_reducible rfl
  simp only [List.getElem_toArray, List.getElem_cons_succ, List.getElem_cons_zero, Act.put, List.setIfInBounds_toArray, List.set_cons_zero, List.set_cons_succ]
  refine HT.take (i := 12) (oi := _) (v := ?_) rfl (by kernel_rfl) (by kernel_rfl) (by decide) (fun _ _ _ h => h) (Or.inl ⟨by rfl, ?_⟩) hS ?_
  rotate_left
  · intro wz
    go_simp
    try with_reducible rfl
  simp only [List.getElem_toArray, List.getElem_cons_succ, List.getElem_cons_zero, Act.put, List.setIfInBounds_toArray, List.set_cons_zero, List.set_cons_succ]
  refine HT.take (i := 13) (oi := _) (v := ?_) rfl (by kernel_rfl) (by kernel_rfl) (by decide) (fun _ _ _ h => h) (Or.inl ⟨by rfl, ?_⟩) hS ?_
  rotate_left
  · intro wz
    go_simp
    try with_reducible rfl
  simp only [List.getElem_toArray, List.getElem_cons_succ, List.getElem_cons_zero, Act.put, List.setIfInBounds_toArray, List.set_cons_zero, List.set_cons_succ]
  refine HT.take (i := 14) (oi := _) (v := ?_) rfl (by kernel_rfl) (by kernel_rfl) (by decide) (fun _ _ _ h => h) (Or.inl ⟨by rfl, ?_⟩) hS ?_
  rotate_left
  · intro wz
    go_simp
    try with_reducible rfl
  simp only [List.getElem_toArray, List.getElem_cons_succ, List.getElem_cons_zero, Act.put, List.setIfInBounds_toArray, List.set_cons_zero, List.set_cons_succ]
  refine HT.take (i := 15) (oi := _) (v := ?_) rfl (by kernel_rfl) (by kernel_rfl) (by decide) (fun _ _ _ h => h) (Or.inl ⟨by rfl, ?_⟩) hS ?_
  rotate_left
  · intro wz
    go_simp
    try with_reducible rfl
  simp only [List.getElem_toArray, List.getElem_cons_succ, List.getElem_cons_zero, Act.put, List.setIfInBounds_toArray, List.set_cons_zero, List.set_cons_succ]
  refine HT.take (i := 16) (oi := _) (v := ?_) rfl (by kernel_rfl) (by kernel_rfl) (by decide) (fun _ _ _ h => h) (Or.inl ⟨by rfl, ?_⟩) hS ?_
  rotate_left
  · intro wz
    go_simp
    try with_reducible rfl
  simp only [List.getElem_toArray, List.getElem_cons_succ, List.getElem_cons_zero, Act.put, List.setIfInBounds_toArray, List.set_cons_zero, List.set_cons_succ]
  refine HT.take (i := 17) (oi := _) (v := ?_) rfl (by kernel_rfl) (by kernel_rfl) (by decide) (fun _ _ _ h => h) (Or.inl ⟨by rfl, ?_⟩) hS ?_
  rotate_left
  · intro wz
    go_simp
    try with_reducible rfl
  simp only [List.getElem_toArray, List.getElem_cons_succ, List.getElem_cons_zero, Act.put, List.setIfInBounds_toArray, List.set_cons_zero, List.set_cons_succ]
  refine HT.take (i := 18) (oi := _) (v := ?_) rfl (by kernel_rfl) (by kernel_rfl) (by decide) (fun _ _ _ h => h) (Or.inl ⟨by rfl, ?_⟩) hS ?_
  rotate_left
  · intro wz
    go_simp
    try with_reducible rfl
  simp only [List.getElem_toArray, List.getElem_cons_succ, List.getElem_cons_zero, Act.put, List.setIfInBounds_toArray, List.set_cons_zero, List.set_cons_succ]
  refine HT.take (i := 19) (oi := _) (v := ?_) rfl (by kernel_rfl) (by kernel_rfl) (by decide) (fun _ _ _ h => h) (Or.inl ⟨by rfl, ?_⟩) hS ?_
  rotate_left
  · intro wz
    go_simp
    try with_reducible rfl
  simp only [List.getElem_toArray, List.getElem_cons_succ, List.getElem_cons_zero, Act.put, List.setIfInBounds_toArray, List.set_cons_zero, List.set_cons_succ]
  refine HT.take (i := 20) (oi := _) (v := ?_) rfl (by kernel_rfl) (by kernel_rfl) (by decide) (fun _ _ _ h => h) (Or.inl ⟨by rfl, ?_⟩) hS ?_
  rotate_left
  · intro wz
    go_simp
    try with_reducible rfl
  simp only [List.getElem_toArray, List.getElem_cons_succ, List.getElem_cons_zero, Act.put, List.setIfInBounds_toArray, List.set_cons_zero, List.set_cons_succ]
  refine HT.take (i := 21) (oi := _) (v := ?_) rfl (by kernel_rfl) (by kernel_rfl) (by decide) (fun _ _ _ h => h) (Or.inl ⟨by rfl, ?_⟩) hS ?_
  rotate_left
  · intro wz
    go_simp
    try with_reducible rfl
  simp only [List.getElem_toArray, List.getElem_cons_succ, List.getElem_cons_zero, Act.put, List.setIfInBounds_toArray, List.set_cons_zero, List.set_cons_succ]
  refine HT.take (i := 22) (oi := _) (v := ?_) rfl (by kernel_rfl) (by kernel_rfl) (by decide) (fun _ _ _ h => h) (Or.inl ⟨by rfl, ?_⟩) hS ?_
  rotate_left
  · intro wz
    go_simp
    try with_reducible rfl
  simp only [List.getElem_toArray, List.getElem_cons_succ, List.getElem_cons_zero, Act.put, List.setIfInBounds_toArray, List.set_cons_zero, List.set_cons_succ]
  refine HT.take (i := 23) (oi := _) (v := ?_) rfl (by kernel_rfl) (by kernel_rfl) (by decide) (fun _ _ _ h => h) (Or.inl ⟨by rfl, ?_⟩) hS ?_
  rotate_left
  · intro wz
    go_simp
    try with_reducible rfl
  simp only [List.getElem_toArray, List.getElem_cons_succ, List.getElem_cons_zero, Act.put, List.setIfInBounds_toArray, List.set_cons_zero, List.set_cons_succ]
  refine HT.take (i := 24) (oi := _) (v := ?_) rfl (by kernel_rfl) (by kernel_rfl) (by decide) (fun _ _ _ h => h) (Or.inl ⟨by rfl, ?_⟩) hS ?_
  rotate_left
  · intro wz
    go_simp
    try with_reducible rfl
  simp only [List.getElem_toArray, List.getElem_cons_succ, List.getElem_cons_zero, Act.put, List.setIfInBounds_toArray, List.set_cons_zero, List.set_cons_succ]
  refine HT.take (i := 25) (oi := _) (v := ?_) rfl (by kernel_rfl) (by kernel_rfl) (by decide) (fun _ _ _ h => h) (Or.inl ⟨by rfl, ?_⟩) hS ?_
  rotate_left
  · intro wz
    go_simp
    try with_reducible rfl
  simp only [List.getElem_toArray, List.getElem_cons_succ, List.getElem_cons_zero, Act.put, List.setIfInBounds_toArray, List.set_cons_zero, List.set_cons_succ]
  refine HT.one (i := 26) (o := _) rfl (by kernel_rfl) (by decide) (by rfl) ?_
  intro K hK
  go_simp
  refine (AWAKE_any _).mono ?_
  rintro e w7 ⟨rfl, hb7⟩
  have HB7 := Lib.hid (HB6.out.trans (hb7.mono HB6.out.size))
  clear hb7
  refine hK.out _ _ ⟨(HB7.out.cell (p := ⟨gx, 0, none⟩) hg4).trans c0, (HB7.out.cell (p := ⟨gx, 1, none⟩) hg4).trans c1⟩ ?_
  clear hK K hS
  have hS := And.intro ((HB7.out.cell (p := ⟨gx, 0, none⟩) hg4).trans c0) ((HB7.out.cell (p := ⟨gx, 1, none⟩) hg4).trans c1)
  try simp only [List.getElem_toArray, List.getElem_cons_succ, List.getElem_cons_zero, Act.put, List.setIfInBounds_toArray, List.set_cons_zero, List.set_cons_succ]
  refine HT.take (i := 27) (oi := _) (v := ?_) rfl (by kernel_rfl) (by kernel_rfl) (by decide) (fun _ _ _ h => h) (Or.inl ⟨by rfl, ?_⟩) hS ?_
  rotate_left
  · intro wz
    go_simp
    try with_reducible rfl
  simp only [List.getElem_toArray, List.getElem_cons_succ, List.getElem_cons_zero, Act.put, List.setIfInBounds_toArray, List.set_cons_zero, List.set_cons_succ]
  refine HT.take (i := 28) (oi := _) (v := ?_) rfl (by kernel_rfl) (by kernel_rfl) (by decide) (fun _ _ _ h => h) (Or.inl ⟨by rfl, ?_⟩) hS ?_
  rotate_left
  · intro wz
    go_simp
    try with_reducible rfl
  simp only [List.getElem_toArray, List.getElem_cons_succ, List.getElem_cons_zero, Act.put, List.setIfInBounds_toArray, List.set_cons_zero, List.set_cons_succ]
  refine HT.done (by kernel_rfl) ?_
  clear hS
  simp only [List.drop_succ_cons, List.drop_zero]
  go_wp2_with fail
  go_ret
  exact ⟨rfl, HBW.out.trans ((HB4.out.trans (HB7.out.mono HB4.out.size)).mono HBW.out.size)⟩
end Go.Proofs.YthjmhdnamhifjaaDoor
