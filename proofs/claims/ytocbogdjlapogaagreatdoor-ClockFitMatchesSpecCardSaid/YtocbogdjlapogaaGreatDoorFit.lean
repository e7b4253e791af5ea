/- clock.Fit: the sums. -/
import Derived.Test.YtocbogdjlapogaaGreatDoorQbx
import Derived.Test.YtocbogdjlapogaaGreatDoorYm
import Derived.Deep.CutBlock
set_option linter.unusedSimpArgs false
set_option linter.unusedVariables false
namespace Go.Proofs.YtocbogdjlapogaaGreatDoor
open Go.RowKit Go.Dw
theorem boxes4 (w : World) (o1 o2 o3 o4 : Obj) : ∃ W gx, W = (((w.alloc o1).alloc o2).alloc o3).alloc o4 ∧ gx = w.heap.size ∧ Hid (W.heap[gx]? = some o1 ∧ W.heap[gx + 1]? = some o2 ∧ W.heap[gx + 1 + 1]? = some o3 ∧ W.heap[gx + 1 + 1 + 1]? = some o4) ∧ Hid (Below w.heap.size w W) ∧ Hid (W.heap.size = w.heap.size + 4) := by
  refine ⟨_, _, rfl, rfl, ⟨?_, ?_, ?_, ?_⟩, ?_, ?_⟩
  · rw [Below.heap_alloc _ _ _ (by first | (simp; done) | (simp; omega)), Below.heap_alloc _ _ _ (by first | (simp; done) | (simp; omega)), Below.heap_alloc _ _ _ (by first | (simp; done) | (simp; omega))]; exact heap_alloc_new _ _
  · rw [Below.heap_alloc _ _ _ (by first | (simp; done) | (simp; omega)), Below.heap_alloc _ _ _ (by first | (simp; done) | (simp; omega))]
    have := heap_alloc_new (w.alloc o1) o2
    rwa [World.size_alloc] at this
  · rw [Below.heap_alloc _ _ _ (by first | (simp; done) | (simp; omega))]
    have := heap_alloc_new ((w.alloc o1).alloc o2) o3
    rwa [World.size_alloc, World.size_alloc] at this
  · have := heap_alloc_new (((w.alloc o1).alloc o2).alloc o3) o4
    rwa [World.size_alloc, World.size_alloc, World.size_alloc] at this
  · exact ((((Below.refl _ w).alloc (Nat.le_refl _) _).alloc (by first | (simp; done) | (simp; omega)) _).alloc (by first | (simp; done) | (simp; omega)) _).alloc (by first | (simp; done) | (simp; omega)) _
  · show _ = _
    simp
theorem four_cells {w : World} {g : Nat} {v0 v1 v2 v3 : Value} {T : TypeId} (h : w.heap[g]? = some (.cells #[v0, v1, v2, v3] T (0, 0))) : w.cell? ⟨g, 0, none⟩ = some v0 ∧ w.cell? ⟨g, 1, none⟩ = some v1 ∧ w.cell? ⟨g, 2, none⟩ = some v2 ∧ w.cell? ⟨g, 3, none⟩ = some v3 ∧ w.frozen? ⟨g, 0, none⟩ = false ∧ w.frozen? ⟨g, 1, none⟩ = false ∧ w.frozen? ⟨g, 2, none⟩ = false ∧ w.frozen? ⟨g, 3, none⟩ = false := by
  refine ⟨?_, ?_, ?_, ?_, frozen_of_row w g 0 _ _ h, frozen_of_row w g 1 _ _ h, frozen_of_row w g 2 _ _ h, frozen_of_row w g 3 _ _ h⟩
  · rw [own_cell1 h 0]; rfl
  · rw [own_cell1 h 1]; rfl
  · rw [own_cell1 h 2]; rfl
  · rw [own_cell1 h 3]; rfl
theorem box4_heap {w : World} {g : Nat} {o0 o1 o2 o3 v0 v1 v2 v3 : Value} {T : TypeId} (h : w.heap[g]? = some (.cells #[o0, o1, o2, o3] T (0, 0))) : ((((w.setCell ⟨g, 0, none⟩ v0).setCell ⟨g, 1, none⟩ v1).setCell ⟨g, 2, none⟩ v2).setCell ⟨g, 3, none⟩ v3).heap[g]? = some (.cells #[v0, v1, v2, v3] T (0, 0)) := by
  simp only [World.setCell, Array.getElem?_modify, h]
  simp
theorem res_line {fn : Func} {p u : Tmp} (h : fn.results = #[.cell p 26, .tmp u]) {tmps : Array Value} {w : World} {g : Nat} {v0 v1 v2 v3 : Value} (hp : tmps.getD p undef = .pointer (some ⟨g, 0, none⟩))
    (h0 : w.cell? ⟨g, 0, none⟩ = some v0) (h1 : w.cell? ⟨g, 1, none⟩ = some v1) (h2 : w.cell? ⟨g, 2, none⟩ = some v2) (h3 : w.cell? ⟨g, 3, none⟩ = some v3) : (results fn tmps).run Tryz.prog w = .ok (.tuple #[.agg #[v0, v1, v2, v3], tmps.getD u undef]) w := by
  have hp' : tmps[p]?.getD undef = .pointer (some ⟨g, 0, none⟩) := by simpa using hp
  simp [results, h, hp', asAddr, loadVar, go_sem, h0, h1, h2, h3]
/-- the slope and the offset -/
def fitA (l : List Pr) : Rat := mkRat ((l.length : Int) * sumZ (fun p => p.1 * p.2) l l.length - sumZ (fun p => p.1) l l.length * sumZ (fun p => p.2) l l.length) ((l.length : Int) * sumZ (fun p => p.1 * p.1) l l.length - sumZ (fun p => p.1) l l.length * sumZ (fun p => p.1) l l.length).natAbs
def fitB (l : List Pr) : Rat := ((sumZ (fun p => p.2) l l.length : Rat) - fitA l * (sumZ (fun p => p.1) l l.length : Rat)) / ((l.length : Int) : Rat)

set_option maxRecDepth 100000 in
set_option maxHeartbeats 16000000 in
theorem FIT_ok (A : Option Addr) (n c : Nat) (l : List Pr) (wo : World) (B : Nat) (hBo : B ≤ wo.heap.size) (hho : Hid (PrsAt wo B A n l)) (HCK : Hid (chkP l = 0)) (HF : Hid (fewT (fitA l) 2000 = true ∧ fewT (fitB l) 2000 = true)) (HD : Hid (0 < (l.length : Int) * sumZ (fun p => p.1 * p.1) l l.length - sumZ (fun p => p.1) l l.length * sumZ (fun p => p.1) l l.length)) (HRG : Hid (∀ k, k < l.length → (-10000000000000 ≤ (prOf l k).1 ∧ (prOf l k).1 ≤ 10000000000000) ∧ (-10000000000000 ≤ (prOf l k).2 ∧ (prOf l k).2 ≤ 10000000000000))) :
    Calls Tryz.prog 4 #[.slice A n c] wo fun e w' => e = .returned (.tuple #[.agg #[.string (txN (fitA l)), .string (txD (fitA l)), .string (txN (fitB l)), .string (txD (fitB l))], .int .i64 0]) ∧ Below wo.heap.size wo w' := by
  have hl := Lib.hid hho.out.1
  obtain ⟨hn2, hn5⟩ := chkP_ok HCK.out
  rw [hl.out] at hn2 hn5
  go_enter Tryz.func4, Tryz.ntmps4
  go_upto_region 1 with (fail)
  obtain ⟨w, gl, hw, hgl, HHL, HBL, HSL⟩ := cell_new0 wo 26 #[.string ⟨#[]⟩, .string ⟨#[]⟩, .string ⟨#[]⟩, .string ⟨#[]⟩]
  rw [← hw, ← hgl]
  have hh : Hid (PrsAt w B A n l) := hho.out.below HBL.out hBo
  have hB : B ≤ w.heap.size := by have := HBL.out.size; omega
  have hglo : wo.heap.size ≤ gl := by omega
  clear hw hgl HSL hho hBo
  go_upto_region 4 with (go_at_call 7; refine (CHECKPAIRS_any A n c l _ B hB hh).mono ?_; rintro e w1 ⟨rfl, hb1⟩; rw [HCK.out])
  have HB1 : Hid (Below w.heap.size w w1) := hb1
  have hs1 := HB1.out.size
  clear hb1
  go_upto_region 5 with (go_at_call 8; refine (IOF_any n (by omega) (by omega) _).mono ?_; rintro e w2 ⟨ng1, A1, n1, c1, rfl, h1, k1, hb2⟩)
  have HB2 := Lib.hid (HB1.out.trans (hb2.mono hs1))
  have hs2 := HB2.out.size
  have H1 := Lib.hid h1
  clear hb2 h1
  obtain ⟨W5, g5, hW5, hg5, HG5, HBW5, HSW5⟩ := cell_new0 w2 36 #[.bool ng1, .slice A1 n1 c1]
  rw [← hW5, ← hg5]
  have IN : Hid (IBox W5 g5 n 2) := ⟨ng1, A1, n1, c1, HG5.out, H1.out.to HBW5.out (Nat.le_refl _) HBW5.out.size, k1⟩
  have HB5 := Lib.hid (HB2.out.trans (HBW5.out.mono hs2))
  clear hW5 hg5 HG5 HBW5 HSW5 H1 k1
  go_upto_region 6 with (fail)
  obtain ⟨W6, g6, hW6, hg6, HG6, HBW6, HSW6⟩ := boxes4 W5 (.cells #[.bool false, .slice none 0 0] 36) (.cells #[.bool false, .slice none 0 0] 36) (.cells #[.bool false, .slice none 0 0] 36) (.cells #[.bool false, .slice none 0 0] 36)
  obtain ⟨g7, hg7⟩ : ∃ g, g = g6 + 1 := ⟨_, rfl⟩
  obtain ⟨g8, hg8⟩ : ∃ g, g = g7 + 1 := ⟨_, rfl⟩
  obtain ⟨g9, hg9⟩ : ∃ g, g = g8 + 1 := ⟨_, rfl⟩
  rw [← hg7, ← hg8, ← hg9] at HG6
  have l5 := IN.out.lt
  have D56 : g5 ≠ g6 := by omega
  have D57 : g5 ≠ g7 := by omega
  have D58 : g5 ≠ g8 := by omega
  have D59 : g5 ≠ g9 := by omega
  have D67 : g6 ≠ g7 := by omega
  have D68 : g6 ≠ g8 := by omega
  have D69 : g6 ≠ g9 := by omega
  have D78 : g7 ≠ g8 := by omega
  have D79 : g7 ≠ g9 := by omega
  have D89 : g8 ≠ g9 := by omega
  have hb5s := HB5.out.size
  have G6 : Hid (w.heap.size ≤ g6) := by show _ ≤ _; omega
  have G7 : Hid (w.heap.size ≤ g7) := by show _ ≤ _; omega
  have G8 : Hid (w.heap.size ≤ g8) := by show _ ≤ _; omega
  have G9 : Hid (w.heap.size ≤ g9) := by show _ ≤ _; omega
  have J6 : Hid (IBox W6 g6 0 (0 + 5)) := IBox.zero HG6.out.1
  have J7 : Hid (IBox W6 g7 0 (0 + 5)) := IBox.zero HG6.out.2.1
  have J8 : Hid (IBox W6 g8 0 (0 + 5)) := IBox.zero HG6.out.2.2.1
  have J9 : Hid (IBox W6 g9 0 (0 + 5)) := IBox.zero HG6.out.2.2.2
  have J5 := Lib.hid (IN.out.below HBW6.out)
  have HB6 := Lib.hid (HB5.out.trans (HBW6.out.mono hb5s))
  rw [← hW6, ← hg6, ← hg7, ← hg8, ← hg9]
  clear hW6 hg6 hg7 hg8 hg9 HG6 HBW6 HSW6 IN HB5 HB2 HB1 hs1 hs2 l5 hb5s
  go_upto_block 0 with (fail)
  go_cut [] (fun wx => Hid (IBox wx g6 (sumZ (fun p => p.1) l n) (n + 5)) ∧ Hid (IBox wx g7 (sumZ (fun p => p.2) l n) (n + 5)) ∧ Hid (IBox wx g8 (sumZ (fun p => p.1 * p.1) l n) (n + 5)) ∧ Hid (IBox wx g9 (sumZ (fun p => p.1 * p.2) l n) (n + 5)) ∧ Hid (IBox wx g5 (n : Int) 2) ∧ Hid (Below w.heap.size w wx))
  case rest =>
    obtain ⟨I6, I7, I8, I9, I5, HBA0⟩ := hcut
    obtain ⟨X, hX⟩ : ∃ X, sumZ (fun p => p.1) l n = X := ⟨_, rfl⟩
    obtain ⟨Y, hY⟩ : ∃ X, sumZ (fun p => p.2) l n = X := ⟨_, rfl⟩
    obtain ⟨P, hP⟩ : ∃ X, sumZ (fun p => p.1 * p.1) l n = X := ⟨_, rfl⟩
    obtain ⟨Q, hQ⟩ : ∃ X, sumZ (fun p => p.1 * p.2) l n = X := ⟨_, rfl⟩
    have HDP : Hid (0 < ((n : Int) * P - X * X).natAbs) := by
      have h := HD.out
      rw [hl.out, hX, hP] at h
      show 0 < _
      omega
    rw [hX] at I6
    rw [hY] at I7
    rw [hP] at I8
    rw [hQ] at I9
    have EX := Lib.hid hX
    have EY := Lib.hid hY
    have EP := Lib.hid hP
    have EQ := Lib.hid hQ
    clear hX hY hP hQ HD
    obtain ⟨W, rfl⟩ : ∃ x : World, x = wc := ⟨_, rfl⟩
    go_upto_region 12 with (fail)
    go_cut [14] (fun v14 wx => ∃ g14 : Nat, v14 = .pointer (some ⟨g14, 0, none⟩) ∧ Hid (QBox wx g14 (mkRat ((n : Int) * Q - X * Y) ((n : Int) * P - X * X).natAbs) (2 * n + 11) (2 * n + 11)) ∧ Hid (Below W.heap.size W wx))
    case first =>
      obtain ⟨ngN, AN, nN, cN, bN, hN, kN⟩ := I5.out
      obtain ⟨ngX, AX, nX, cX, bX, hX, kX⟩ := I6.out
      obtain ⟨ngY, AY, nY, cY, bY, hY, kY⟩ := I7.out
      obtain ⟨ngP, AP, nP, cP, bP, hP, kP⟩ := I8.out
      obtain ⟨ngQ, AQ, nQ, cQ, bQ, hQ, kQ⟩ := I9.out
      have HBN := Lib.hid bN
      have HN := Lib.hid hN
      obtain ⟨qN0, qN1, _, _⟩ := two_cells bN
      have HBX := Lib.hid bX
      have HX := Lib.hid hX
      obtain ⟨qX0, qX1, _, _⟩ := two_cells bX
      have HBY := Lib.hid bY
      have HY := Lib.hid hY
      obtain ⟨qY0, qY1, _, _⟩ := two_cells bY
      have HBP := Lib.hid bP
      have HP := Lib.hid hP
      obtain ⟨qP0, qP1, _, _⟩ := two_cells bP
      have HBQ := Lib.hid bQ
      have HQ := Lib.hid hQ
      obtain ⟨qQ0, qQ1, _, _⟩ := two_cells bQ
      clear bN hN bX hX bY hY bP hP bQ hQ I5 I6 I7 I8 I9
      refine wp_region_text 17 (fun x9 => x9.cell? ⟨g5, 0, none⟩ = some (.bool ngN) ∧ x9.cell? ⟨g5, 1, none⟩ = some (.slice AN nN cN) ∧ x9.cell? ⟨g6, 0, none⟩ = some (.bool ngX) ∧ x9.cell? ⟨g6, 1, none⟩ = some (.slice AX nX cX) ∧ x9.cell? ⟨g7, 0, none⟩ = some (.bool ngY) ∧ x9.cell? ⟨g7, 1, none⟩ = some (.slice AY nY cY) ∧ x9.cell? ⟨g8, 0, none⟩ = some (.bool ngP) ∧ x9.cell? ⟨g8, 1, none⟩ = some (.slice AP nP cP) ∧ x9.cell? ⟨g9, 0, none⟩ = some (.bool ngQ) ∧ x9.cell? ⟨g9, 1, none⟩ = some (.slice AQ nQ cQ)) (by kernel_rfl) (by kernel_rfl) ?_
      obtain ⟨wc, hwc⟩ : ∃ x : World, x = W.drew := ⟨_, rfl⟩
      have hbn : Below W.heap.size W W.drew := (Below.refl _ _).drew
      have HN := Lib.hid (HN.out.to hbn (Nat.le_refl _) hbn.size)
      have HX := Lib.hid (HX.out.to hbn (Nat.le_refl _) hbn.size)
      have HY := Lib.hid (HY.out.to hbn (Nat.le_refl _) hbn.size)
      have HP := Lib.hid (HP.out.to hbn (Nat.le_refl _) hbn.size)
      have HQ := Lib.hid (HQ.out.to hbn (Nat.le_refl _) hbn.size)
      clear hbn
      have HBc : Hid (Below W.heap.size W wc) := by show Below _ _ _; rw [hwc]; exact (Below.refl _ _).drew
      have hS : wc.cell? ⟨g5, 0, none⟩ = some (.bool ngN) ∧ wc.cell? ⟨g5, 1, none⟩ = some (.slice AN nN cN) ∧ wc.cell? ⟨g6, 0, none⟩ = some (.bool ngX) ∧ wc.cell? ⟨g6, 1, none⟩ = some (.slice AX nX cX) ∧ wc.cell? ⟨g7, 0, none⟩ = some (.bool ngY) ∧ wc.cell? ⟨g7, 1, none⟩ = some (.slice AY nY cY) ∧ wc.cell? ⟨g8, 0, none⟩ = some (.bool ngP) ∧ wc.cell? ⟨g8, 1, none⟩ = some (.slice AP nP cP) ∧ wc.cell? ⟨g9, 0, none⟩ = some (.bool ngQ) ∧ wc.cell? ⟨g9, 1, none⟩ = some (.slice AQ nQ cQ) := by rw [hwc]; exact ⟨qN0, qN1, qX0, qX1, qY0, qY1, qP0, qP1, qQ0, qQ1⟩
      have hg_0 : g5 < wc.heap.size := by rw [hwc]; exact blk_lt HBN.out
      have hg_1 : g6 < wc.heap.size := by rw [hwc]; exact blk_lt HBX.out
      have hg_2 : g7 < wc.heap.size := by rw [hwc]; exact blk_lt HBY.out
      have hg_3 : g8 < wc.heap.size := by rw [hwc]; exact blk_lt HBP.out
      have hg_4 : g9 < wc.heap.size := by rw [hwc]; exact blk_lt HBQ.out
      rw [← hwc] at HN HX HY HP HQ
      rw [← hwc]
      clear hwc
      refine HT.load (i := 0) (oi := _) (v := ?_) rfl (by kernel_rfl) (by kernel_rfl) (by decide) (fun _ _ _ h => h) (by kernel_rfl) (Or.inl ⟨by rfl, ?_⟩) hS ?_
      rotate_left
      · intro wz hwz
        try dsimp only at hwz
        go_simp
        try with_reducible rfl
      simp only [List.getElem_toArray, List.getElem_cons_succ, List.getElem_cons_zero, Act.put, List.setIfInBounds_toArray, List.set_cons_zero, List.set_cons_succ]
      refine HT.load (i := 1) (oi := _) (v := ?_) rfl (by kernel_rfl) (by kernel_rfl) (by decide) (fun _ _ _ h => h) (by kernel_rfl) (Or.inl ⟨by rfl, ?_⟩) hS ?_
      rotate_left
      · intro wz hwz
        try dsimp only at hwz
        go_simp
        try with_reducible rfl
      simp only [List.getElem_toArray, List.getElem_cons_succ, List.getElem_cons_zero, Act.put, List.setIfInBounds_toArray, List.set_cons_zero, List.set_cons_succ]
      refine HT.load (i := 3) (oi := _) (v := ?_) rfl (by kernel_rfl) (by kernel_rfl) (by decide) (fun _ _ _ h => h) (by kernel_rfl) (Or.inl ⟨by rfl, ?_⟩) hS ?_
      rotate_left
      · intro wz hwz
        try dsimp only at hwz
        go_simp
        try with_reducible rfl
      simp only [List.getElem_toArray, List.getElem_cons_succ, List.getElem_cons_zero, Act.put, List.setIfInBounds_toArray, List.set_cons_zero, List.set_cons_succ]
      refine HT.load (i := 4) (oi := _) (v := ?_) rfl (by kernel_rfl) (by kernel_rfl) (by decide) (fun _ _ _ h => h) (by kernel_rfl) (Or.inl ⟨by rfl, ?_⟩) hS ?_
      rotate_left
      · intro wz hwz
        try dsimp only at hwz
        go_simp
        try with_reducible rfl
      simp only [List.getElem_toArray, List.getElem_cons_succ, List.getElem_cons_zero, Act.put, List.setIfInBounds_toArray, List.set_cons_zero, List.set_cons_succ]
      refine HT.load (i := 7) (oi := _) (v := ?_) rfl (by kernel_rfl) (by kernel_rfl) (by decide) (fun _ _ _ h => h) (by kernel_rfl) (Or.inl ⟨by rfl, ?_⟩) hS ?_
      rotate_left
      · intro wz hwz
        try dsimp only at hwz
        go_simp
        try with_reducible rfl
      simp only [List.getElem_toArray, List.getElem_cons_succ, List.getElem_cons_zero, Act.put, List.setIfInBounds_toArray, List.set_cons_zero, List.set_cons_succ]
      refine HT.load (i := 8) (oi := _) (v := ?_) rfl (by kernel_rfl) (by kernel_rfl) (by decide) (fun _ _ _ h => h) (by kernel_rfl) (Or.inl ⟨by rfl, ?_⟩) hS ?_
      rotate_left
      · intro wz hwz
        try dsimp only at hwz
        go_simp
        try with_reducible rfl
      simp only [List.getElem_toArray, List.getElem_cons_succ, List.getElem_cons_zero, Act.put, List.setIfInBounds_toArray, List.set_cons_zero, List.set_cons_succ]
      refine HT.load (i := 10) (oi := _) (v := ?_) rfl (by kernel_rfl) (by kernel_rfl) (by decide) (fun _ _ _ h => h) (by kernel_rfl) (Or.inl ⟨by rfl, ?_⟩) hS ?_
      rotate_left
      · intro wz hwz
        try dsimp only at hwz
        go_simp
        try with_reducible rfl
      simp only [List.getElem_toArray, List.getElem_cons_succ, List.getElem_cons_zero, Act.put, List.setIfInBounds_toArray, List.set_cons_zero, List.set_cons_succ]
      refine HT.load (i := 11) (oi := _) (v := ?_) rfl (by kernel_rfl) (by kernel_rfl) (by decide) (fun _ _ _ h => h) (by kernel_rfl) (Or.inl ⟨by rfl, ?_⟩) hS ?_
      rotate_left
      · intro wz hwz
        try dsimp only at hwz
        go_simp
        try with_reducible rfl
      simp only [List.getElem_toArray, List.getElem_cons_succ, List.getElem_cons_zero, Act.put, List.setIfInBounds_toArray, List.set_cons_zero, List.set_cons_succ]
      refine HT.two 2 16 (o := _) (o' := _) rfl rfl (by kernel_rfl) (by decide) (by decide) (by rfl) (by rfl) ?_ ?_
      · intro K hK
        go_simp
        refine (IMUL_any ngN ngQ AN AQ nN cN nQ cQ _ _ (by omega) (by omega) _ wc.heap.size (Nat.le_refl _) HN HQ).mono ?_
        rintro e wn ⟨ng1, A1, n1, c1, rfl, hH1, k1, hbn⟩
        have H1 := Lib.hid hH1
        clear hH1
        clear HQ
        replace HN := Lib.hid (HN.out.to hbn (Nat.le_refl _) hbn.size)
        replace HX := Lib.hid (HX.out.to hbn (Nat.le_refl _) hbn.size)
        replace HY := Lib.hid (HY.out.to hbn (Nat.le_refl _) hbn.size)
        replace HP := Lib.hid (HP.out.to hbn (Nat.le_refl _) hbn.size)
        have HBn := Lib.hid (HBc.out.trans (hbn.mono HBc.out.size))
        have hSn : wn.cell? ⟨g5, 0, none⟩ = some (.bool ngN) ∧ wn.cell? ⟨g5, 1, none⟩ = some (.slice AN nN cN) ∧ wn.cell? ⟨g6, 0, none⟩ = some (.bool ngX) ∧ wn.cell? ⟨g6, 1, none⟩ = some (.slice AX nX cX) ∧ wn.cell? ⟨g7, 0, none⟩ = some (.bool ngY) ∧ wn.cell? ⟨g7, 1, none⟩ = some (.slice AY nY cY) ∧ wn.cell? ⟨g8, 0, none⟩ = some (.bool ngP) ∧ wn.cell? ⟨g8, 1, none⟩ = some (.slice AP nP cP) ∧ wn.cell? ⟨g9, 0, none⟩ = some (.bool ngQ) ∧ wn.cell? ⟨g9, 1, none⟩ = some (.slice AQ nQ cQ) := ⟨(hbn.cell (p := ⟨g5, 0, none⟩) hg_0).trans hS.1, (hbn.cell (p := ⟨g5, 1, none⟩) hg_0).trans hS.2.1, (hbn.cell (p := ⟨g6, 0, none⟩) hg_1).trans hS.2.2.1, (hbn.cell (p := ⟨g6, 1, none⟩) hg_1).trans hS.2.2.2.1, (hbn.cell (p := ⟨g7, 0, none⟩) hg_2).trans hS.2.2.2.2.1, (hbn.cell (p := ⟨g7, 1, none⟩) hg_2).trans hS.2.2.2.2.2.1, (hbn.cell (p := ⟨g8, 0, none⟩) hg_3).trans hS.2.2.2.2.2.2.1, (hbn.cell (p := ⟨g8, 1, none⟩) hg_3).trans hS.2.2.2.2.2.2.2.1, (hbn.cell (p := ⟨g9, 0, none⟩) hg_4).trans hS.2.2.2.2.2.2.2.2.1, (hbn.cell (p := ⟨g9, 1, none⟩) hg_4).trans hS.2.2.2.2.2.2.2.2.2⟩
        have hgn_0 := Nat.lt_of_lt_of_le hg_0 hbn.size
        have hgn_1 := Nat.lt_of_lt_of_le hg_1 hbn.size
        have hgn_2 := Nat.lt_of_lt_of_le hg_2 hbn.size
        have hgn_3 := Nat.lt_of_lt_of_le hg_3 hbn.size
        have hgn_4 := Nat.lt_of_lt_of_le hg_4 hbn.size
        refine hK.out _ _ hSn ?_
        clear hK K hS HBc hg_0 hg_1 hg_2 hg_3 hg_4
        try simp only [List.getElem_toArray, List.getElem_cons_succ, List.getElem_cons_zero, Act.put, List.setIfInBounds_toArray, List.set_cons_zero, List.set_cons_succ]
        have hS := hSn
        have HBc := HBn
        have hg_0 := hgn_0
        have hg_1 := hgn_1
        have hg_2 := hgn_2
        have hg_3 := hgn_3
        have hg_4 := hgn_4
        clear hSn HBn hbn hgn_0 hgn_1 hgn_2 hgn_3 hgn_4
        obtain ⟨wc, rfl⟩ : ∃ x : World, x = wn := ⟨_, rfl⟩
        refine HT.two 5 16 (o := _) (o' := _) rfl rfl (by kernel_rfl) (by decide) (by decide) (by rfl) (by rfl) ?_ ?_
        · intro K hK
          go_simp
          refine (IMUL_any ngX ngY AX AY nX cX nY cY _ _ (by omega) (by omega) _ wc.heap.size (Nat.le_refl _) HX HY).mono ?_
          rintro e wn ⟨ng2, A2, n2, c2, rfl, hH2, k2, hbn⟩
          have H2 := Lib.hid hH2
          clear hH2
          clear HY
          replace HN := Lib.hid (HN.out.to hbn (Nat.le_refl _) hbn.size)
          replace HX := Lib.hid (HX.out.to hbn (Nat.le_refl _) hbn.size)
          replace HP := Lib.hid (HP.out.to hbn (Nat.le_refl _) hbn.size)
          replace H1 := Lib.hid (H1.out.to hbn (Nat.le_refl _) hbn.size)
          have HBn := Lib.hid (HBc.out.trans (hbn.mono HBc.out.size))
          have hSn : wn.cell? ⟨g5, 0, none⟩ = some (.bool ngN) ∧ wn.cell? ⟨g5, 1, none⟩ = some (.slice AN nN cN) ∧ wn.cell? ⟨g6, 0, none⟩ = some (.bool ngX) ∧ wn.cell? ⟨g6, 1, none⟩ = some (.slice AX nX cX) ∧ wn.cell? ⟨g7, 0, none⟩ = some (.bool ngY) ∧ wn.cell? ⟨g7, 1, none⟩ = some (.slice AY nY cY) ∧ wn.cell? ⟨g8, 0, none⟩ = some (.bool ngP) ∧ wn.cell? ⟨g8, 1, none⟩ = some (.slice AP nP cP) ∧ wn.cell? ⟨g9, 0, none⟩ = some (.bool ngQ) ∧ wn.cell? ⟨g9, 1, none⟩ = some (.slice AQ nQ cQ) := ⟨(hbn.cell (p := ⟨g5, 0, none⟩) hg_0).trans hS.1, (hbn.cell (p := ⟨g5, 1, none⟩) hg_0).trans hS.2.1, (hbn.cell (p := ⟨g6, 0, none⟩) hg_1).trans hS.2.2.1, (hbn.cell (p := ⟨g6, 1, none⟩) hg_1).trans hS.2.2.2.1, (hbn.cell (p := ⟨g7, 0, none⟩) hg_2).trans hS.2.2.2.2.1, (hbn.cell (p := ⟨g7, 1, none⟩) hg_2).trans hS.2.2.2.2.2.1, (hbn.cell (p := ⟨g8, 0, none⟩) hg_3).trans hS.2.2.2.2.2.2.1, (hbn.cell (p := ⟨g8, 1, none⟩) hg_3).trans hS.2.2.2.2.2.2.2.1, (hbn.cell (p := ⟨g9, 0, none⟩) hg_4).trans hS.2.2.2.2.2.2.2.2.1, (hbn.cell (p := ⟨g9, 1, none⟩) hg_4).trans hS.2.2.2.2.2.2.2.2.2⟩
          have hgn_0 := Nat.lt_of_lt_of_le hg_0 hbn.size
          have hgn_1 := Nat.lt_of_lt_of_le hg_1 hbn.size
          have hgn_2 := Nat.lt_of_lt_of_le hg_2 hbn.size
          have hgn_3 := Nat.lt_of_lt_of_le hg_3 hbn.size
          have hgn_4 := Nat.lt_of_lt_of_le hg_4 hbn.size
          refine hK.out _ _ hSn ?_
          clear hK K hS HBc hg_0 hg_1 hg_2 hg_3 hg_4
          try simp only [List.getElem_toArray, List.getElem_cons_succ, List.getElem_cons_zero, Act.put, List.setIfInBounds_toArray, List.set_cons_zero, List.set_cons_succ]
          have hS := hSn
          have HBc := HBn
          have hg_0 := hgn_0
          have hg_1 := hgn_1
          have hg_2 := hgn_2
          have hg_3 := hgn_3
          have hg_4 := hgn_4
          clear hSn HBn hbn hgn_0 hgn_1 hgn_2 hgn_3 hgn_4
          obtain ⟨wc, rfl⟩ : ∃ x : World, x = wn := ⟨_, rfl⟩
          refine HT.two 6 16 (o := _) (o' := _) rfl rfl (by kernel_rfl) (by decide) (by decide) (by rfl) (by rfl) ?_ ?_
          · intro K hK
            go_simp
            refine (ISUB_any ng1 ng2 A1 A2 n1 c1 n2 c2 _ _ (by omega) (by omega) _ wc.heap.size (Nat.le_refl _) H1 H2).mono ?_
            rintro e wn ⟨ng3, A3, n3, c3, rfl, hH3, k3, hbn⟩
            have H3 := Lib.hid hH3
            clear hH3
            clear H1 H2
            replace HN := Lib.hid (HN.out.to hbn (Nat.le_refl _) hbn.size)
            replace HX := Lib.hid (HX.out.to hbn (Nat.le_refl _) hbn.size)
            replace HP := Lib.hid (HP.out.to hbn (Nat.le_refl _) hbn.size)
            have HBn := Lib.hid (HBc.out.trans (hbn.mono HBc.out.size))
            have hSn : wn.cell? ⟨g5, 0, none⟩ = some (.bool ngN) ∧ wn.cell? ⟨g5, 1, none⟩ = some (.slice AN nN cN) ∧ wn.cell? ⟨g6, 0, none⟩ = some (.bool ngX) ∧ wn.cell? ⟨g6, 1, none⟩ = some (.slice AX nX cX) ∧ wn.cell? ⟨g7, 0, none⟩ = some (.bool ngY) ∧ wn.cell? ⟨g7, 1, none⟩ = some (.slice AY nY cY) ∧ wn.cell? ⟨g8, 0, none⟩ = some (.bool ngP) ∧ wn.cell? ⟨g8, 1, none⟩ = some (.slice AP nP cP) ∧ wn.cell? ⟨g9, 0, none⟩ = some (.bool ngQ) ∧ wn.cell? ⟨g9, 1, none⟩ = some (.slice AQ nQ cQ) := ⟨(hbn.cell (p := ⟨g5, 0, none⟩) hg_0).trans hS.1, (hbn.cell (p := ⟨g5, 1, none⟩) hg_0).trans hS.2.1, (hbn.cell (p := ⟨g6, 0, none⟩) hg_1).trans hS.2.2.1, (hbn.cell (p := ⟨g6, 1, none⟩) hg_1).trans hS.2.2.2.1, (hbn.cell (p := ⟨g7, 0, none⟩) hg_2).trans hS.2.2.2.2.1, (hbn.cell (p := ⟨g7, 1, none⟩) hg_2).trans hS.2.2.2.2.2.1, (hbn.cell (p := ⟨g8, 0, none⟩) hg_3).trans hS.2.2.2.2.2.2.1, (hbn.cell (p := ⟨g8, 1, none⟩) hg_3).trans hS.2.2.2.2.2.2.2.1, (hbn.cell (p := ⟨g9, 0, none⟩) hg_4).trans hS.2.2.2.2.2.2.2.2.1, (hbn.cell (p := ⟨g9, 1, none⟩) hg_4).trans hS.2.2.2.2.2.2.2.2.2⟩
            have hgn_0 := Nat.lt_of_lt_of_le hg_0 hbn.size
            have hgn_1 := Nat.lt_of_lt_of_le hg_1 hbn.size
            have hgn_2 := Nat.lt_of_lt_of_le hg_2 hbn.size
            have hgn_3 := Nat.lt_of_lt_of_le hg_3 hbn.size
            have hgn_4 := Nat.lt_of_lt_of_le hg_4 hbn.size
            refine hK.out _ _ hSn ?_
            clear hK K hS HBc hg_0 hg_1 hg_2 hg_3 hg_4
            try simp only [List.getElem_toArray, List.getElem_cons_succ, List.getElem_cons_zero, Act.put, List.setIfInBounds_toArray, List.set_cons_zero, List.set_cons_succ]
            have hS := hSn
            have HBc := HBn
            have hg_0 := hgn_0
            have hg_1 := hgn_1
            have hg_2 := hgn_2
            have hg_3 := hgn_3
            have hg_4 := hgn_4
            clear hSn HBn hbn hgn_0 hgn_1 hgn_2 hgn_3 hgn_4
            obtain ⟨wc, rfl⟩ : ∃ x : World, x = wn := ⟨_, rfl⟩
            refine HT.two 9 16 (o := _) (o' := _) rfl rfl (by kernel_rfl) (by decide) (by decide) (by rfl) (by rfl) ?_ ?_
            · intro K hK
              go_simp
              refine (IMUL_any ngN ngP AN AP nN cN nP cP _ _ (by omega) (by omega) _ wc.heap.size (Nat.le_refl _) HN HP).mono ?_
              rintro e wn ⟨ng4, A4, n4, c4, rfl, hH4, k4, hbn⟩
              have H4 := Lib.hid hH4
              clear hH4
              clear HN HP
              replace HX := Lib.hid (HX.out.to hbn (Nat.le_refl _) hbn.size)
              replace H3 := Lib.hid (H3.out.to hbn (Nat.le_refl _) hbn.size)
              have HBn := Lib.hid (HBc.out.trans (hbn.mono HBc.out.size))
              have hSn : wn.cell? ⟨g5, 0, none⟩ = some (.bool ngN) ∧ wn.cell? ⟨g5, 1, none⟩ = some (.slice AN nN cN) ∧ wn.cell? ⟨g6, 0, none⟩ = some (.bool ngX) ∧ wn.cell? ⟨g6, 1, none⟩ = some (.slice AX nX cX) ∧ wn.cell? ⟨g7, 0, none⟩ = some (.bool ngY) ∧ wn.cell? ⟨g7, 1, none⟩ = some (.slice AY nY cY) ∧ wn.cell? ⟨g8, 0, none⟩ = some (.bool ngP) ∧ wn.cell? ⟨g8, 1, none⟩ = some (.slice AP nP cP) ∧ wn.cell? ⟨g9, 0, none⟩ = some (.bool ngQ) ∧ wn.cell? ⟨g9, 1, none⟩ = some (.slice AQ nQ cQ) := ⟨(hbn.cell (p := ⟨g5, 0, none⟩) hg_0).trans hS.1, (hbn.cell (p := ⟨g5, 1, none⟩) hg_0).trans hS.2.1, (hbn.cell (p := ⟨g6, 0, none⟩) hg_1).trans hS.2.2.1, (hbn.cell (p := ⟨g6, 1, none⟩) hg_1).trans hS.2.2.2.1, (hbn.cell (p := ⟨g7, 0, none⟩) hg_2).trans hS.2.2.2.2.1, (hbn.cell (p := ⟨g7, 1, none⟩) hg_2).trans hS.2.2.2.2.2.1, (hbn.cell (p := ⟨g8, 0, none⟩) hg_3).trans hS.2.2.2.2.2.2.1, (hbn.cell (p := ⟨g8, 1, none⟩) hg_3).trans hS.2.2.2.2.2.2.2.1, (hbn.cell (p := ⟨g9, 0, none⟩) hg_4).trans hS.2.2.2.2.2.2.2.2.1, (hbn.cell (p := ⟨g9, 1, none⟩) hg_4).trans hS.2.2.2.2.2.2.2.2.2⟩
              have hgn_0 := Nat.lt_of_lt_of_le hg_0 hbn.size
              have hgn_1 := Nat.lt_of_lt_of_le hg_1 hbn.size
              have hgn_2 := Nat.lt_of_lt_of_le hg_2 hbn.size
              have hgn_3 := Nat.lt_of_lt_of_le hg_3 hbn.size
              have hgn_4 := Nat.lt_of_lt_of_le hg_4 hbn.size
              refine hK.out _ _ hSn ?_
              clear hK K hS HBc hg_0 hg_1 hg_2 hg_3 hg_4
              try simp only [List.getElem_toArray, List.getElem_cons_succ, List.getElem_cons_zero, Act.put, List.setIfInBounds_toArray, List.set_cons_zero, List.set_cons_succ]
              have hS := hSn
              have HBc := HBn
              have hg_0 := hgn_0
              have hg_1 := hgn_1
              have hg_2 := hgn_2
              have hg_3 := hgn_3
              have hg_4 := hgn_4
              clear hSn HBn hbn hgn_0 hgn_1 hgn_2 hgn_3 hgn_4
              obtain ⟨wc, rfl⟩ : ∃ x : World, x = wn := ⟨_, rfl⟩
              refine HT.two 12 16 (o := _) (o' := _) rfl rfl (by kernel_rfl) (by decide) (by decide) (by rfl) (by rfl) ?_ ?_
              · intro K hK
                go_simp
                refine (IMUL_any ngX ngX AX AX nX cX nX cX _ _ (by omega) (by omega) _ wc.heap.size (Nat.le_refl _) HX HX).mono ?_
                rintro e wn ⟨ng5, A5, n5, c5, rfl, hH5, k5, hbn⟩
                have H5 := Lib.hid hH5
                clear hH5
                clear HX
                replace H3 := Lib.hid (H3.out.to hbn (Nat.le_refl _) hbn.size)
                replace H4 := Lib.hid (H4.out.to hbn (Nat.le_refl _) hbn.size)
                have HBn := Lib.hid (HBc.out.trans (hbn.mono HBc.out.size))
                have hSn : wn.cell? ⟨g5, 0, none⟩ = some (.bool ngN) ∧ wn.cell? ⟨g5, 1, none⟩ = some (.slice AN nN cN) ∧ wn.cell? ⟨g6, 0, none⟩ = some (.bool ngX) ∧ wn.cell? ⟨g6, 1, none⟩ = some (.slice AX nX cX) ∧ wn.cell? ⟨g7, 0, none⟩ = some (.bool ngY) ∧ wn.cell? ⟨g7, 1, none⟩ = some (.slice AY nY cY) ∧ wn.cell? ⟨g8, 0, none⟩ = some (.bool ngP) ∧ wn.cell? ⟨g8, 1, none⟩ = some (.slice AP nP cP) ∧ wn.cell? ⟨g9, 0, none⟩ = some (.bool ngQ) ∧ wn.cell? ⟨g9, 1, none⟩ = some (.slice AQ nQ cQ) := ⟨(hbn.cell (p := ⟨g5, 0, none⟩) hg_0).trans hS.1, (hbn.cell (p := ⟨g5, 1, none⟩) hg_0).trans hS.2.1, (hbn.cell (p := ⟨g6, 0, none⟩) hg_1).trans hS.2.2.1, (hbn.cell (p := ⟨g6, 1, none⟩) hg_1).trans hS.2.2.2.1, (hbn.cell (p := ⟨g7, 0, none⟩) hg_2).trans hS.2.2.2.2.1, (hbn.cell (p := ⟨g7, 1, none⟩) hg_2).trans hS.2.2.2.2.2.1, (hbn.cell (p := ⟨g8, 0, none⟩) hg_3).trans hS.2.2.2.2.2.2.1, (hbn.cell (p := ⟨g8, 1, none⟩) hg_3).trans hS.2.2.2.2.2.2.2.1, (hbn.cell (p := ⟨g9, 0, none⟩) hg_4).trans hS.2.2.2.2.2.2.2.2.1, (hbn.cell (p := ⟨g9, 1, none⟩) hg_4).trans hS.2.2.2.2.2.2.2.2.2⟩
                have hgn_0 := Nat.lt_of_lt_of_le hg_0 hbn.size
                have hgn_1 := Nat.lt_of_lt_of_le hg_1 hbn.size
                have hgn_2 := Nat.lt_of_lt_of_le hg_2 hbn.size
                have hgn_3 := Nat.lt_of_lt_of_le hg_3 hbn.size
                have hgn_4 := Nat.lt_of_lt_of_le hg_4 hbn.size
                refine hK.out _ _ hSn ?_
                clear hK K hS HBc hg_0 hg_1 hg_2 hg_3 hg_4
                try simp only [List.getElem_toArray, List.getElem_cons_succ, List.getElem_cons_zero, Act.put, List.setIfInBounds_toArray, List.set_cons_zero, List.set_cons_succ]
                have hS := hSn
                have HBc := HBn
                have hg_0 := hgn_0
                have hg_1 := hgn_1
                have hg_2 := hgn_2
                have hg_3 := hgn_3
                have hg_4 := hgn_4
                clear hSn HBn hbn hgn_0 hgn_1 hgn_2 hgn_3 hgn_4
                obtain ⟨wc, rfl⟩ : ∃ x : World, x = wn := ⟨_, rfl⟩
                refine HT.two 13 16 (o := _) (o' := _) rfl rfl (by kernel_rfl) (by decide) (by decide) (by rfl) (by rfl) ?_ ?_
                · intro K hK
                  go_simp
                  refine (ISUB_any ng4 ng5 A4 A5 n4 c4 n5 c5 _ _ (by omega) (by omega) _ wc.heap.size (Nat.le_refl _) H4 H5).mono ?_
                  rintro e wn ⟨ng6, A6, n6, c6, rfl, hH6, k6, hbn⟩
                  have H6 := Lib.hid hH6
                  clear hH6
                  clear H4 H5
                  replace H3 := Lib.hid (H3.out.to hbn (Nat.le_refl _) hbn.size)
                  have HBn := Lib.hid (HBc.out.trans (hbn.mono HBc.out.size))
                  have hSn : wn.cell? ⟨g5, 0, none⟩ = some (.bool ngN) ∧ wn.cell? ⟨g5, 1, none⟩ = some (.slice AN nN cN) ∧ wn.cell? ⟨g6, 0, none⟩ = some (.bool ngX) ∧ wn.cell? ⟨g6, 1, none⟩ = some (.slice AX nX cX) ∧ wn.cell? ⟨g7, 0, none⟩ = some (.bool ngY) ∧ wn.cell? ⟨g7, 1, none⟩ = some (.slice AY nY cY) ∧ wn.cell? ⟨g8, 0, none⟩ = some (.bool ngP) ∧ wn.cell? ⟨g8, 1, none⟩ = some (.slice AP nP cP) ∧ wn.cell? ⟨g9, 0, none⟩ = some (.bool ngQ) ∧ wn.cell? ⟨g9, 1, none⟩ = some (.slice AQ nQ cQ) := ⟨(hbn.cell (p := ⟨g5, 0, none⟩) hg_0).trans hS.1, (hbn.cell (p := ⟨g5, 1, none⟩) hg_0).trans hS.2.1, (hbn.cell (p := ⟨g6, 0, none⟩) hg_1).trans hS.2.2.1, (hbn.cell (p := ⟨g6, 1, none⟩) hg_1).trans hS.2.2.2.1, (hbn.cell (p := ⟨g7, 0, none⟩) hg_2).trans hS.2.2.2.2.1, (hbn.cell (p := ⟨g7, 1, none⟩) hg_2).trans hS.2.2.2.2.2.1, (hbn.cell (p := ⟨g8, 0, none⟩) hg_3).trans hS.2.2.2.2.2.2.1, (hbn.cell (p := ⟨g8, 1, none⟩) hg_3).trans hS.2.2.2.2.2.2.2.1, (hbn.cell (p := ⟨g9, 0, none⟩) hg_4).trans hS.2.2.2.2.2.2.2.2.1, (hbn.cell (p := ⟨g9, 1, none⟩) hg_4).trans hS.2.2.2.2.2.2.2.2.2⟩
                  have hgn_0 := Nat.lt_of_lt_of_le hg_0 hbn.size
                  have hgn_1 := Nat.lt_of_lt_of_le hg_1 hbn.size
                  have hgn_2 := Nat.lt_of_lt_of_le hg_2 hbn.size
                  have hgn_3 := Nat.lt_of_lt_of_le hg_3 hbn.size
                  have hgn_4 := Nat.lt_of_lt_of_le hg_4 hbn.size
                  refine hK.out _ _ hSn ?_
                  clear hK K hS HBc hg_0 hg_1 hg_2 hg_3 hg_4
                  try simp only [List.getElem_toArray, List.getElem_cons_succ, List.getElem_cons_zero, Act.put, List.setIfInBounds_toArray, List.set_cons_zero, List.set_cons_succ]
                  have hS := hSn
                  have HBc := HBn
                  have hg_0 := hgn_0
                  have hg_1 := hgn_1
                  have hg_2 := hgn_2
                  have hg_3 := hgn_3
                  have hg_4 := hgn_4
                  clear hSn HBn hbn hgn_0 hgn_1 hgn_2 hgn_3 hgn_4
                  obtain ⟨wc, rfl⟩ : ∃ x : World, x = wn := ⟨_, rfl⟩
                  refine HT.take (i := 14) (oi := _) (v := .slice A6 n6 c6) rfl (by kernel_rfl) (by kernel_rfl) (by decide) (fun _ _ _ h => h) (Or.inl ⟨by rfl, ?_⟩) hS ?_
                  · intro wz
                    first | exact (run_field_i1 ng6 A6 n6 c6 wz) | (go_simp; done) | (go_simp; exact (run_field_i1 ng6 A6 n6 c6 wz)) | (go_simp; simp only [(run_field_i1 ng6 A6 n6 c6 wz)]; rfl) | (go_simp; simp only [(run_field_i1 ng6 A6 n6 c6 wz)])
                  simp only [List.getElem_toArray, List.getElem_cons_succ, List.getElem_cons_zero, Act.put, List.setIfInBounds_toArray, List.set_cons_zero, List.set_cons_succ]
                  refine HT.two 15 16 (o := _) (o' := _) rfl rfl (by kernel_rfl) (by decide) (by decide) (by rfl) (by rfl) ?_ ?_
                  · intro K hK
                    go_simp
                    refine (QOVER_any ng3 A3 A6 n3 c3 n6 c6 _ _ (by omega) (by omega) HDP.out _ wc.heap.size (Nat.le_refl _) H3 (Lib.hid H6.out.2)).mono ?_
                    rintro e wn ⟨ng7, A7, n7, c7, D7, d7, e7, rfl, hR7, k7, m7, hbn⟩
                    obtain ⟨hH7, hG7⟩ := hR7
                    have H7 := Lib.hid hH7
                    clear hH7
                    have G7 := Lib.hid hG7
                    clear hG7
                    clear H3 H6
                    have HBn := Lib.hid (HBc.out.trans (hbn.mono HBc.out.size))
                    have hSn : wn.cell? ⟨g5, 0, none⟩ = some (.bool ngN) ∧ wn.cell? ⟨g5, 1, none⟩ = some (.slice AN nN cN) ∧ wn.cell? ⟨g6, 0, none⟩ = some (.bool ngX) ∧ wn.cell? ⟨g6, 1, none⟩ = some (.slice AX nX cX) ∧ wn.cell? ⟨g7, 0, none⟩ = some (.bool ngY) ∧ wn.cell? ⟨g7, 1, none⟩ = some (.slice AY nY cY) ∧ wn.cell? ⟨g8, 0, none⟩ = some (.bool ngP) ∧ wn.cell? ⟨g8, 1, none⟩ = some (.slice AP nP cP) ∧ wn.cell? ⟨g9, 0, none⟩ = some (.bool ngQ) ∧ wn.cell? ⟨g9, 1, none⟩ = some (.slice AQ nQ cQ) := ⟨(hbn.cell (p := ⟨g5, 0, none⟩) hg_0).trans hS.1, (hbn.cell (p := ⟨g5, 1, none⟩) hg_0).trans hS.2.1, (hbn.cell (p := ⟨g6, 0, none⟩) hg_1).trans hS.2.2.1, (hbn.cell (p := ⟨g6, 1, none⟩) hg_1).trans hS.2.2.2.1, (hbn.cell (p := ⟨g7, 0, none⟩) hg_2).trans hS.2.2.2.2.1, (hbn.cell (p := ⟨g7, 1, none⟩) hg_2).trans hS.2.2.2.2.2.1, (hbn.cell (p := ⟨g8, 0, none⟩) hg_3).trans hS.2.2.2.2.2.2.1, (hbn.cell (p := ⟨g8, 1, none⟩) hg_3).trans hS.2.2.2.2.2.2.2.1, (hbn.cell (p := ⟨g9, 0, none⟩) hg_4).trans hS.2.2.2.2.2.2.2.2.1, (hbn.cell (p := ⟨g9, 1, none⟩) hg_4).trans hS.2.2.2.2.2.2.2.2.2⟩
                    have hgn_0 := Nat.lt_of_lt_of_le hg_0 hbn.size
                    have hgn_1 := Nat.lt_of_lt_of_le hg_1 hbn.size
                    have hgn_2 := Nat.lt_of_lt_of_le hg_2 hbn.size
                    have hgn_3 := Nat.lt_of_lt_of_le hg_3 hbn.size
                    have hgn_4 := Nat.lt_of_lt_of_le hg_4 hbn.size
                    refine hK.out _ _ hSn ?_
                    clear hK K hS HBc hg_0 hg_1 hg_2 hg_3 hg_4
                    try simp only [List.getElem_toArray, List.getElem_cons_succ, List.getElem_cons_zero, Act.put, List.setIfInBounds_toArray, List.set_cons_zero, List.set_cons_succ]
                    have hS := hSn
                    have HBc := HBn
                    have hg_0 := hgn_0
                    have hg_1 := hgn_1
                    have hg_2 := hgn_2
                    have hg_3 := hgn_3
                    have hg_4 := hgn_4
                    clear hSn HBn hbn hgn_0 hgn_1 hgn_2 hgn_3 hgn_4
                    obtain ⟨wc, rfl⟩ : ∃ x : World, x = wn := ⟨_, rfl⟩
                    refine HT.one (i := 16) (o := _) rfl (by kernel_rfl) (by decide) (by rfl) ?_
                    intro K hK
                    go_simp
                    obtain ⟨wn, g14, hwn, hga9, hHA, hbn0, _⟩ := cell_new0 wc 42 #[.bool false, .slice none 0 0, .slice none 0 0]
                    have hbn := hbn0.out
                    have HGg14 : Hid (W.heap.size ≤ g14) := by show _ ≤ _; rw [hga9]; exact HBc.out.size
                    rw [← hwn, ← hga9]
                    have HA := hHA
                    clear hwn hga9 hbn0 hHA
                    replace H7 := Lib.hid (H7.out.to hbn (Nat.le_refl _) hbn.size)
                    replace G7 := Lib.hid (G7.out.to hbn (Nat.le_refl _) hbn.size)
                    have HBn := Lib.hid (HBc.out.trans (hbn.mono HBc.out.size))
                    have hSn : wn.cell? ⟨g5, 0, none⟩ = some (.bool ngN) ∧ wn.cell? ⟨g5, 1, none⟩ = some (.slice AN nN cN) ∧ wn.cell? ⟨g6, 0, none⟩ = some (.bool ngX) ∧ wn.cell? ⟨g6, 1, none⟩ = some (.slice AX nX cX) ∧ wn.cell? ⟨g7, 0, none⟩ = some (.bool ngY) ∧ wn.cell? ⟨g7, 1, none⟩ = some (.slice AY nY cY) ∧ wn.cell? ⟨g8, 0, none⟩ = some (.bool ngP) ∧ wn.cell? ⟨g8, 1, none⟩ = some (.slice AP nP cP) ∧ wn.cell? ⟨g9, 0, none⟩ = some (.bool ngQ) ∧ wn.cell? ⟨g9, 1, none⟩ = some (.slice AQ nQ cQ) := ⟨(hbn.cell (p := ⟨g5, 0, none⟩) hg_0).trans hS.1, (hbn.cell (p := ⟨g5, 1, none⟩) hg_0).trans hS.2.1, (hbn.cell (p := ⟨g6, 0, none⟩) hg_1).trans hS.2.2.1, (hbn.cell (p := ⟨g6, 1, none⟩) hg_1).trans hS.2.2.2.1, (hbn.cell (p := ⟨g7, 0, none⟩) hg_2).trans hS.2.2.2.2.1, (hbn.cell (p := ⟨g7, 1, none⟩) hg_2).trans hS.2.2.2.2.2.1, (hbn.cell (p := ⟨g8, 0, none⟩) hg_3).trans hS.2.2.2.2.2.2.1, (hbn.cell (p := ⟨g8, 1, none⟩) hg_3).trans hS.2.2.2.2.2.2.2.1, (hbn.cell (p := ⟨g9, 0, none⟩) hg_4).trans hS.2.2.2.2.2.2.2.2.1, (hbn.cell (p := ⟨g9, 1, none⟩) hg_4).trans hS.2.2.2.2.2.2.2.2.2⟩
                    have hgn_0 := Nat.lt_of_lt_of_le hg_0 hbn.size
                    have hgn_1 := Nat.lt_of_lt_of_le hg_1 hbn.size
                    have hgn_2 := Nat.lt_of_lt_of_le hg_2 hbn.size
                    have hgn_3 := Nat.lt_of_lt_of_le hg_3 hbn.size
                    have hgn_4 := Nat.lt_of_lt_of_le hg_4 hbn.size
                    refine hK.out _ _ hSn ?_
                    clear hK K hS HBc hg_0 hg_1 hg_2 hg_3 hg_4
                    try simp only [List.getElem_toArray, List.getElem_cons_succ, List.getElem_cons_zero, Act.put, List.setIfInBounds_toArray, List.set_cons_zero, List.set_cons_succ]
                    have hS := hSn
                    have HBc := HBn
                    have hg_0 := hgn_0
                    have hg_1 := hgn_1
                    have hg_2 := hgn_2
                    have hg_3 := hgn_3
                    have hg_4 := hgn_4
                    clear hSn HBn hbn hgn_0 hgn_1 hgn_2 hgn_3 hgn_4
                    obtain ⟨wc, rfl⟩ : ∃ x : World, x = wn := ⟨_, rfl⟩
                    obtain ⟨r0, r1, r2, f0, f1, f2⟩ := three_cells HA.out
                    refine HT.done (by kernel_rfl) ?_
                    clear hS
                    simp only [List.drop_succ_cons, List.drop_zero]
                    have HQB := Lib.hid (QBox.store (k := 2 * n + 11) (m := 2 * n + 11) HA.out ⟨H7.out, G7.out⟩ (by omega) (by omega))
                    have HBS := Lib.hid (box3_below (v0 := .bool ng7) (v1 := .slice A7 n7 c7) (v2 := .slice D7 d7 e7) HBc.out HGg14.out)
                    go_wp2_with fail
                    go_meet
                    exact ⟨g14, rfl, HQB, HBS⟩
                    -- H7 G7 HA
                  · intro K hK
                    go_simp
                    obtain ⟨wn, g14, hwn, hga9, hHA, hbn0, _⟩ := cell_new0 wc 42 #[.bool false, .slice none 0 0, .slice none 0 0]
                    have hbn := hbn0.out
                    have HGg14 : Hid (W.heap.size ≤ g14) := by show _ ≤ _; rw [hga9]; exact HBc.out.size
                    rw [← hwn, ← hga9]
                    have HA := hHA
                    clear hwn hga9 hbn0 hHA
                    replace H3 := Lib.hid (H3.out.to hbn (Nat.le_refl _) hbn.size)
                    replace H6 := Lib.hid (H6.out.to hbn (Nat.le_refl _) hbn.size)
                    have HBn := Lib.hid (HBc.out.trans (hbn.mono HBc.out.size))
                    have hSn : wn.cell? ⟨g5, 0, none⟩ = some (.bool ngN) ∧ wn.cell? ⟨g5, 1, none⟩ = some (.slice AN nN cN) ∧ wn.cell? ⟨g6, 0, none⟩ = some (.bool ngX) ∧ wn.cell? ⟨g6, 1, none⟩ = some (.slice AX nX cX) ∧ wn.cell? ⟨g7, 0, none⟩ = some (.bool ngY) ∧ wn.cell? ⟨g7, 1, none⟩ = some (.slice AY nY cY) ∧ wn.cell? ⟨g8, 0, none⟩ = some (.bool ngP) ∧ wn.cell? ⟨g8, 1, none⟩ = some (.slice AP nP cP) ∧ wn.cell? ⟨g9, 0, none⟩ = some (.bool ngQ) ∧ wn.cell? ⟨g9, 1, none⟩ = some (.slice AQ nQ cQ) := ⟨(hbn.cell (p := ⟨g5, 0, none⟩) hg_0).trans hS.1, (hbn.cell (p := ⟨g5, 1, none⟩) hg_0).trans hS.2.1, (hbn.cell (p := ⟨g6, 0, none⟩) hg_1).trans hS.2.2.1, (hbn.cell (p := ⟨g6, 1, none⟩) hg_1).trans hS.2.2.2.1, (hbn.cell (p := ⟨g7, 0, none⟩) hg_2).trans hS.2.2.2.2.1, (hbn.cell (p := ⟨g7, 1, none⟩) hg_2).trans hS.2.2.2.2.2.1, (hbn.cell (p := ⟨g8, 0, none⟩) hg_3).trans hS.2.2.2.2.2.2.1, (hbn.cell (p := ⟨g8, 1, none⟩) hg_3).trans hS.2.2.2.2.2.2.2.1, (hbn.cell (p := ⟨g9, 0, none⟩) hg_4).trans hS.2.2.2.2.2.2.2.2.1, (hbn.cell (p := ⟨g9, 1, none⟩) hg_4).trans hS.2.2.2.2.2.2.2.2.2⟩
                    have hgn_0 := Nat.lt_of_lt_of_le hg_0 hbn.size
                    have hgn_1 := Nat.lt_of_lt_of_le hg_1 hbn.size
                    have hgn_2 := Nat.lt_of_lt_of_le hg_2 hbn.size
                    have hgn_3 := Nat.lt_of_lt_of_le hg_3 hbn.size
                    have hgn_4 := Nat.lt_of_lt_of_le hg_4 hbn.size
                    refine hK.out _ _ hSn ?_
                    clear hK K hS HBc hg_0 hg_1 hg_2 hg_3 hg_4
                    try simp only [List.getElem_toArray, List.getElem_cons_succ, List.getElem_cons_zero, Act.put, List.setIfInBounds_toArray, List.set_cons_zero, List.set_cons_succ]
                    have hS := hSn
                    have HBc := HBn
                    have hg_0 := hgn_0
                    have hg_1 := hgn_1
                    have hg_2 := hgn_2
                    have hg_3 := hgn_3
                    have hg_4 := hgn_4
                    clear hSn HBn hbn hgn_0 hgn_1 hgn_2 hgn_3 hgn_4
                    obtain ⟨wc, rfl⟩ : ∃ x : World, x = wn := ⟨_, rfl⟩
                    refine HT.one (i := 15) (o := _) rfl (by kernel_rfl) (by decide) (by rfl) ?_
                    intro K hK
                    go_simp
                    refine (QOVER_any ng3 A3 A6 n3 c3 n6 c6 _ _ (by omega) (by omega) HDP.out _ wc.heap.size (Nat.le_refl _) H3 (Lib.hid H6.out.2)).mono ?_
                    rintro e wn ⟨ng7, A7, n7, c7, D7, d7, e7, rfl, hR7, k7, m7, hbn⟩
                    obtain ⟨hH7, hG7⟩ := hR7
                    have H7 := Lib.hid hH7
                    clear hH7
                    have G7 := Lib.hid hG7
                    clear hG7
                    clear H3 H6
                    replace HA := Lib.hid ((hbn.block g14 (blk_lt HA.out)).trans HA.out)
                    have HBn := Lib.hid (HBc.out.trans (hbn.mono HBc.out.size))
                    have hSn : wn.cell? ⟨g5, 0, none⟩ = some (.bool ngN) ∧ wn.cell? ⟨g5, 1, none⟩ = some (.slice AN nN cN) ∧ wn.cell? ⟨g6, 0, none⟩ = some (.bool ngX) ∧ wn.cell? ⟨g6, 1, none⟩ = some (.slice AX nX cX) ∧ wn.cell? ⟨g7, 0, none⟩ = some (.bool ngY) ∧ wn.cell? ⟨g7, 1, none⟩ = some (.slice AY nY cY) ∧ wn.cell? ⟨g8, 0, none⟩ = some (.bool ngP) ∧ wn.cell? ⟨g8, 1, none⟩ = some (.slice AP nP cP) ∧ wn.cell? ⟨g9, 0, none⟩ = some (.bool ngQ) ∧ wn.cell? ⟨g9, 1, none⟩ = some (.slice AQ nQ cQ) := ⟨(hbn.cell (p := ⟨g5, 0, none⟩) hg_0).trans hS.1, (hbn.cell (p := ⟨g5, 1, none⟩) hg_0).trans hS.2.1, (hbn.cell (p := ⟨g6, 0, none⟩) hg_1).trans hS.2.2.1, (hbn.cell (p := ⟨g6, 1, none⟩) hg_1).trans hS.2.2.2.1, (hbn.cell (p := ⟨g7, 0, none⟩) hg_2).trans hS.2.2.2.2.1, (hbn.cell (p := ⟨g7, 1, none⟩) hg_2).trans hS.2.2.2.2.2.1, (hbn.cell (p := ⟨g8, 0, none⟩) hg_3).trans hS.2.2.2.2.2.2.1, (hbn.cell (p := ⟨g8, 1, none⟩) hg_3).trans hS.2.2.2.2.2.2.2.1, (hbn.cell (p := ⟨g9, 0, none⟩) hg_4).trans hS.2.2.2.2.2.2.2.2.1, (hbn.cell (p := ⟨g9, 1, none⟩) hg_4).trans hS.2.2.2.2.2.2.2.2.2⟩
                    have hgn_0 := Nat.lt_of_lt_of_le hg_0 hbn.size
                    have hgn_1 := Nat.lt_of_lt_of_le hg_1 hbn.size
                    have hgn_2 := Nat.lt_of_lt_of_le hg_2 hbn.size
                    have hgn_3 := Nat.lt_of_lt_of_le hg_3 hbn.size
                    have hgn_4 := Nat.lt_of_lt_of_le hg_4 hbn.size
                    refine hK.out _ _ hSn ?_
                    clear hK K hS HBc hg_0 hg_1 hg_2 hg_3 hg_4
                    try simp only [List.getElem_toArray, List.getElem_cons_succ, List.getElem_cons_zero, Act.put, List.setIfInBounds_toArray, List.set_cons_zero, List.set_cons_succ]
                    have hS := hSn
                    have HBc := HBn
                    have hg_0 := hgn_0
                    have hg_1 := hgn_1
                    have hg_2 := hgn_2
                    have hg_3 := hgn_3
                    have hg_4 := hgn_4
                    clear hSn HBn hbn hgn_0 hgn_1 hgn_2 hgn_3 hgn_4
                    obtain ⟨wc, rfl⟩ : ∃ x : World, x = wn := ⟨_, rfl⟩
                    obtain ⟨r0, r1, r2, f0, f1, f2⟩ := three_cells HA.out
                    refine HT.done (by kernel_rfl) ?_
                    clear hS
                    simp only [List.drop_succ_cons, List.drop_zero]
                    have HQB := Lib.hid (QBox.store (k := 2 * n + 11) (m := 2 * n + 11) HA.out ⟨H7.out, G7.out⟩ (by omega) (by omega))
                    have HBS := Lib.hid (box3_below (v0 := .bool ng7) (v1 := .slice A7 n7 c7) (v2 := .slice D7 d7 e7) HBc.out HGg14.out)
                    go_wp2_with fail
                    go_meet
                    exact ⟨g14, rfl, HQB, HBS⟩
                    -- H7 G7 HA
                · intro K hK
                  go_simp
                  obtain ⟨wn, g14, hwn, hga9, hHA, hbn0, _⟩ := cell_new0 wc 42 #[.bool false, .slice none 0 0, .slice none 0 0]
                  have hbn := hbn0.out
                  have HGg14 : Hid (W.heap.size ≤ g14) := by show _ ≤ _; rw [hga9]; exact HBc.out.size
                  rw [← hwn, ← hga9]
                  have HA := hHA
                  clear hwn hga9 hbn0 hHA
                  replace H3 := Lib.hid (H3.out.to hbn (Nat.le_refl _) hbn.size)
                  replace H4 := Lib.hid (H4.out.to hbn (Nat.le_refl _) hbn.size)
                  replace H5 := Lib.hid (H5.out.to hbn (Nat.le_refl _) hbn.size)
                  have HBn := Lib.hid (HBc.out.trans (hbn.mono HBc.out.size))
                  have hSn : wn.cell? ⟨g5, 0, none⟩ = some (.bool ngN) ∧ wn.cell? ⟨g5, 1, none⟩ = some (.slice AN nN cN) ∧ wn.cell? ⟨g6, 0, none⟩ = some (.bool ngX) ∧ wn.cell? ⟨g6, 1, none⟩ = some (.slice AX nX cX) ∧ wn.cell? ⟨g7, 0, none⟩ = some (.bool ngY) ∧ wn.cell? ⟨g7, 1, none⟩ = some (.slice AY nY cY) ∧ wn.cell? ⟨g8, 0, none⟩ = some (.bool ngP) ∧ wn.cell? ⟨g8, 1, none⟩ = some (.slice AP nP cP) ∧ wn.cell? ⟨g9, 0, none⟩ = some (.bool ngQ) ∧ wn.cell? ⟨g9, 1, none⟩ = some (.slice AQ nQ cQ) := ⟨(hbn.cell (p := ⟨g5, 0, none⟩) hg_0).trans hS.1, (hbn.cell (p := ⟨g5, 1, none⟩) hg_0).trans hS.2.1, (hbn.cell (p := ⟨g6, 0, none⟩) hg_1).trans hS.2.2.1, (hbn.cell (p := ⟨g6, 1, none⟩) hg_1).trans hS.2.2.2.1, (hbn.cell (p := ⟨g7, 0, none⟩) hg_2).trans hS.2.2.2.2.1, (hbn.cell (p := ⟨g7, 1, none⟩) hg_2).trans hS.2.2.2.2.2.1, (hbn.cell (p := ⟨g8, 0, none⟩) hg_3).trans hS.2.2.2.2.2.2.1, (hbn.cell (p := ⟨g8, 1, none⟩) hg_3).trans hS.2.2.2.2.2.2.2.1, (hbn.cell (p := ⟨g9, 0, none⟩) hg_4).trans hS.2.2.2.2.2.2.2.2.1, (hbn.cell (p := ⟨g9, 1, none⟩) hg_4).trans hS.2.2.2.2.2.2.2.2.2⟩
                  have hgn_0 := Nat.lt_of_lt_of_le hg_0 hbn.size
                  have hgn_1 := Nat.lt_of_lt_of_le hg_1 hbn.size
                  have hgn_2 := Nat.lt_of_lt_of_le hg_2 hbn.size
                  have hgn_3 := Nat.lt_of_lt_of_le hg_3 hbn.size
                  have hgn_4 := Nat.lt_of_lt_of_le hg_4 hbn.size
                  refine hK.out _ _ hSn ?_
                  clear hK K hS HBc hg_0 hg_1 hg_2 hg_3 hg_4
                  try simp only [List.getElem_toArray, List.getElem_cons_succ, List.getElem_cons_zero, Act.put, List.setIfInBounds_toArray, List.set_cons_zero, List.set_cons_succ]
                  have hS := hSn
                  have HBc := HBn
                  have hg_0 := hgn_0
                  have hg_1 := hgn_1
                  have hg_2 := hgn_2
                  have hg_3 := hgn_3
                  have hg_4 := hgn_4
                  clear hSn HBn hbn hgn_0 hgn_1 hgn_2 hgn_3 hgn_4
                  obtain ⟨wc, rfl⟩ : ∃ x : World, x = wn := ⟨_, rfl⟩
                  refine HT.one (i := 13) (o := _) rfl (by kernel_rfl) (by decide) (by rfl) ?_
                  intro K hK
                  go_simp
                  refine (ISUB_any ng4 ng5 A4 A5 n4 c4 n5 c5 _ _ (by omega) (by omega) _ wc.heap.size (Nat.le_refl _) H4 H5).mono ?_
                  rintro e wn ⟨ng6, A6, n6, c6, rfl, hH6, k6, hbn⟩
                  have H6 := Lib.hid hH6
                  clear hH6
                  clear H4 H5
                  replace H3 := Lib.hid (H3.out.to hbn (Nat.le_refl _) hbn.size)
                  replace HA := Lib.hid ((hbn.block g14 (blk_lt HA.out)).trans HA.out)
                  have HBn := Lib.hid (HBc.out.trans (hbn.mono HBc.out.size))
                  have hSn : wn.cell? ⟨g5, 0, none⟩ = some (.bool ngN) ∧ wn.cell? ⟨g5, 1, none⟩ = some (.slice AN nN cN) ∧ wn.cell? ⟨g6, 0, none⟩ = some (.bool ngX) ∧ wn.cell? ⟨g6, 1, none⟩ = some (.slice AX nX cX) ∧ wn.cell? ⟨g7, 0, none⟩ = some (.bool ngY) ∧ wn.cell? ⟨g7, 1, none⟩ = some (.slice AY nY cY) ∧ wn.cell? ⟨g8, 0, none⟩ = some (.bool ngP) ∧ wn.cell? ⟨g8, 1, none⟩ = some (.slice AP nP cP) ∧ wn.cell? ⟨g9, 0, none⟩ = some (.bool ngQ) ∧ wn.cell? ⟨g9, 1, none⟩ = some (.slice AQ nQ cQ) := ⟨(hbn.cell (p := ⟨g5, 0, none⟩) hg_0).trans hS.1, (hbn.cell (p := ⟨g5, 1, none⟩) hg_0).trans hS.2.1, (hbn.cell (p := ⟨g6, 0, none⟩) hg_1).trans hS.2.2.1, (hbn.cell (p := ⟨g6, 1, none⟩) hg_1).trans hS.2.2.2.1, (hbn.cell (p := ⟨g7, 0, none⟩) hg_2).trans hS.2.2.2.2.1, (hbn.cell (p := ⟨g7, 1, none⟩) hg_2).trans hS.2.2.2.2.2.1, (hbn.cell (p := ⟨g8, 0, none⟩) hg_3).trans hS.2.2.2.2.2.2.1, (hbn.cell (p := ⟨g8, 1, none⟩) hg_3).trans hS.2.2.2.2.2.2.2.1, (hbn.cell (p := ⟨g9, 0, none⟩) hg_4).trans hS.2.2.2.2.2.2.2.2.1, (hbn.cell (p := ⟨g9, 1, none⟩) hg_4).trans hS.2.2.2.2.2.2.2.2.2⟩
                  have hgn_0 := Nat.lt_of_lt_of_le hg_0 hbn.size
                  have hgn_1 := Nat.lt_of_lt_of_le hg_1 hbn.size
                  have hgn_2 := Nat.lt_of_lt_of_le hg_2 hbn.size
                  have hgn_3 := Nat.lt_of_lt_of_le hg_3 hbn.size
                  have hgn_4 := Nat.lt_of_lt_of_le hg_4 hbn.size
                  refine hK.out _ _ hSn ?_
                  clear hK K hS HBc hg_0 hg_1 hg_2 hg_3 hg_4
                  try simp only [List.getElem_toArray, List.getElem_cons_succ, List.getElem_cons_zero, Act.put, List.setIfInBounds_toArray, List.set_cons_zero, List.set_cons_succ]
                  have hS := hSn
                  have HBc := HBn
                  have hg_0 := hgn_0
                  have hg_1 := hgn_1
                  have hg_2 := hgn_2
                  have hg_3 := hgn_3
                  have hg_4 := hgn_4
                  clear hSn HBn hbn hgn_0 hgn_1 hgn_2 hgn_3 hgn_4
                  obtain ⟨wc, rfl⟩ : ∃ x : World, x = wn := ⟨_, rfl⟩
                  refine HT.take (i := 14) (oi := _) (v := .slice A6 n6 c6) rfl (by kernel_rfl) (by kernel_rfl) (by decide) (fun _ _ _ h => h) (Or.inl ⟨by rfl, ?_⟩) hS ?_
                  · intro wz
                    first | exact (run_field_i1 ng6 A6 n6 c6 wz) | (go_simp; done) | (go_simp; exact (run_field_i1 ng6 A6 n6 c6 wz)) | (go_simp; simp only [(run_field_i1 ng6 A6 n6 c6 wz)]; rfl) | (go_simp; simp only [(run_field_i1 ng6 A6 n6 c6 wz)])
                  simp only [List.getElem_toArray, List.getElem_cons_succ, List.getElem_cons_zero, Act.put, List.setIfInBounds_toArray, List.set_cons_zero, List.set_cons_succ]
                  refine HT.one (i := 15) (o := _) rfl (by kernel_rfl) (by decide) (by rfl) ?_
                  intro K hK
                  go_simp
                  refine (QOVER_any ng3 A3 A6 n3 c3 n6 c6 _ _ (by omega) (by omega) HDP.out _ wc.heap.size (Nat.le_refl _) H3 (Lib.hid H6.out.2)).mono ?_
                  rintro e wn ⟨ng7, A7, n7, c7, D7, d7, e7, rfl, hR7, k7, m7, hbn⟩
                  obtain ⟨hH7, hG7⟩ := hR7
                  have H7 := Lib.hid hH7
                  clear hH7
                  have G7 := Lib.hid hG7
                  clear hG7
                  clear H3 H6
                  replace HA := Lib.hid ((hbn.block g14 (blk_lt HA.out)).trans HA.out)
                  have HBn := Lib.hid (HBc.out.trans (hbn.mono HBc.out.size))
                  have hSn : wn.cell? ⟨g5, 0, none⟩ = some (.bool ngN) ∧ wn.cell? ⟨g5, 1, none⟩ = some (.slice AN nN cN) ∧ wn.cell? ⟨g6, 0, none⟩ = some (.bool ngX) ∧ wn.cell? ⟨g6, 1, none⟩ = some (.slice AX nX cX) ∧ wn.cell? ⟨g7, 0, none⟩ = some (.bool ngY) ∧ wn.cell? ⟨g7, 1, none⟩ = some (.slice AY nY cY) ∧ wn.cell? ⟨g8, 0, none⟩ = some (.bool ngP) ∧ wn.cell? ⟨g8, 1, none⟩ = some (.slice AP nP cP) ∧ wn.cell? ⟨g9, 0, none⟩ = some (.bool ngQ) ∧ wn.cell? ⟨g9, 1, none⟩ = some (.slice AQ nQ cQ) := ⟨(hbn.cell (p := ⟨g5, 0, none⟩) hg_0).trans hS.1, (hbn.cell (p := ⟨g5, 1, none⟩) hg_0).trans hS.2.1, (hbn.cell (p := ⟨g6, 0, none⟩) hg_1).trans hS.2.2.1, (hbn.cell (p := ⟨g6, 1, none⟩) hg_1).trans hS.2.2.2.1, (hbn.cell (p := ⟨g7, 0, none⟩) hg_2).trans hS.2.2.2.2.1, (hbn.cell (p := ⟨g7, 1, none⟩) hg_2).trans hS.2.2.2.2.2.1, (hbn.cell (p := ⟨g8, 0, none⟩) hg_3).trans hS.2.2.2.2.2.2.1, (hbn.cell (p := ⟨g8, 1, none⟩) hg_3).trans hS.2.2.2.2.2.2.2.1, (hbn.cell (p := ⟨g9, 0, none⟩) hg_4).trans hS.2.2.2.2.2.2.2.2.1, (hbn.cell (p := ⟨g9, 1, none⟩) hg_4).trans hS.2.2.2.2.2.2.2.2.2⟩
                  have hgn_0 := Nat.lt_of_lt_of_le hg_0 hbn.size
                  have hgn_1 := Nat.lt_of_lt_of_le hg_1 hbn.size
                  have hgn_2 := Nat.lt_of_lt_of_le hg_2 hbn.size
                  have hgn_3 := Nat.lt_of_lt_of_le hg_3 hbn.size
                  have hgn_4 := Nat.lt_of_lt_of_le hg_4 hbn.size
                  refine hK.out _ _ hSn ?_
                  clear hK K hS HBc hg_0 hg_1 hg_2 hg_3 hg_4
                  try simp only [List.getElem_toArray, List.getElem_cons_succ, List.getElem_cons_zero, Act.put, List.setIfInBounds_toArray, List.set_cons_zero, List.set_cons_succ]
                  have hS := hSn
                  have HBc := HBn
                  have hg_0 := hgn_0
                  have hg_1 := hgn_1
                  have hg_2 := hgn_2
                  have hg_3 := hgn_3
                  have hg_4 := hgn_4
                  clear hSn HBn hbn hgn_0 hgn_1 hgn_2 hgn_3 hgn_4
                  obtain ⟨wc, rfl⟩ : ∃ x : World, x = wn := ⟨_, rfl⟩
                  obtain ⟨r0, r1, r2, f0, f1, f2⟩ := three_cells HA.out
                  refine HT.done (by kernel_rfl) ?_
                  clear hS
                  simp only [List.drop_succ_cons, List.drop_zero]
                  have HQB := Lib.hid (QBox.store (k := 2 * n + 11) (m := 2 * n + 11) HA.out ⟨H7.out, G7.out⟩ (by omega) (by omega))
                  have HBS := Lib.hid (box3_below (v0 := .bool ng7) (v1 := .slice A7 n7 c7) (v2 := .slice D7 d7 e7) HBc.out HGg14.out)
                  go_wp2_with fail
                  go_meet
                  exact ⟨g14, rfl, HQB, HBS⟩
                  -- H7 G7 HA
              · intro K hK
                go_simp
                obtain ⟨wn, g14, hwn, hga9, hHA, hbn0, _⟩ := cell_new0 wc 42 #[.bool false, .slice none 0 0, .slice none 0 0]
                have hbn := hbn0.out
                have HGg14 : Hid (W.heap.size ≤ g14) := by show _ ≤ _; rw [hga9]; exact HBc.out.size
                rw [← hwn, ← hga9]
                have HA := hHA
                clear hwn hga9 hbn0 hHA
                replace HX := Lib.hid (HX.out.to hbn (Nat.le_refl _) hbn.size)
                replace H3 := Lib.hid (H3.out.to hbn (Nat.le_refl _) hbn.size)
                replace H4 := Lib.hid (H4.out.to hbn (Nat.le_refl _) hbn.size)
                have HBn := Lib.hid (HBc.out.trans (hbn.mono HBc.out.size))
                have hSn : wn.cell? ⟨g5, 0, none⟩ = some (.bool ngN) ∧ wn.cell? ⟨g5, 1, none⟩ = some (.slice AN nN cN) ∧ wn.cell? ⟨g6, 0, none⟩ = some (.bool ngX) ∧ wn.cell? ⟨g6, 1, none⟩ = some (.slice AX nX cX) ∧ wn.cell? ⟨g7, 0, none⟩ = some (.bool ngY) ∧ wn.cell? ⟨g7, 1, none⟩ = some (.slice AY nY cY) ∧ wn.cell? ⟨g8, 0, none⟩ = some (.bool ngP) ∧ wn.cell? ⟨g8, 1, none⟩ = some (.slice AP nP cP) ∧ wn.cell? ⟨g9, 0, none⟩ = some (.bool ngQ) ∧ wn.cell? ⟨g9, 1, none⟩ = some (.slice AQ nQ cQ) := ⟨(hbn.cell (p := ⟨g5, 0, none⟩) hg_0).trans hS.1, (hbn.cell (p := ⟨g5, 1, none⟩) hg_0).trans hS.2.1, (hbn.cell (p := ⟨g6, 0, none⟩) hg_1).trans hS.2.2.1, (hbn.cell (p := ⟨g6, 1, none⟩) hg_1).trans hS.2.2.2.1, (hbn.cell (p := ⟨g7, 0, none⟩) hg_2).trans hS.2.2.2.2.1, (hbn.cell (p := ⟨g7, 1, none⟩) hg_2).trans hS.2.2.2.2.2.1, (hbn.cell (p := ⟨g8, 0, none⟩) hg_3).trans hS.2.2.2.2.2.2.1, (hbn.cell (p := ⟨g8, 1, none⟩) hg_3).trans hS.2.2.2.2.2.2.2.1, (hbn.cell (p := ⟨g9, 0, none⟩) hg_4).trans hS.2.2.2.2.2.2.2.2.1, (hbn.cell (p := ⟨g9, 1, none⟩) hg_4).trans hS.2.2.2.2.2.2.2.2.2⟩
                have hgn_0 := Nat.lt_of_lt_of_le hg_0 hbn.size
                have hgn_1 := Nat.lt_of_lt_of_le hg_1 hbn.size
                have hgn_2 := Nat.lt_of_lt_of_le hg_2 hbn.size
                have hgn_3 := Nat.lt_of_lt_of_le hg_3 hbn.size
                have hgn_4 := Nat.lt_of_lt_of_le hg_4 hbn.size
                refine hK.out _ _ hSn ?_
                clear hK K hS HBc hg_0 hg_1 hg_2 hg_3 hg_4
                try simp only [List.getElem_toArray, List.getElem_cons_succ, List.getElem_cons_zero, Act.put, List.setIfInBounds_toArray, List.set_cons_zero, List.set_cons_succ]
                have hS := hSn
                have HBc := HBn
                have hg_0 := hgn_0
                have hg_1 := hgn_1
                have hg_2 := hgn_2
                have hg_3 := hgn_3
                have hg_4 := hgn_4
                clear hSn HBn hbn hgn_0 hgn_1 hgn_2 hgn_3 hgn_4
                obtain ⟨wc, rfl⟩ : ∃ x : World, x = wn := ⟨_, rfl⟩
                refine HT.one (i := 12) (o := _) rfl (by kernel_rfl) (by decide) (by rfl) ?_
                intro K hK
                go_simp
                refine (IMUL_any ngX ngX AX AX nX cX nX cX _ _ (by omega) (by omega) _ wc.heap.size (Nat.le_refl _) HX HX).mono ?_
                rintro e wn ⟨ng5, A5, n5, c5, rfl, hH5, k5, hbn⟩
                have H5 := Lib.hid hH5
                clear hH5
                clear HX
                replace H3 := Lib.hid (H3.out.to hbn (Nat.le_refl _) hbn.size)
                replace H4 := Lib.hid (H4.out.to hbn (Nat.le_refl _) hbn.size)
                replace HA := Lib.hid ((hbn.block g14 (blk_lt HA.out)).trans HA.out)
                have HBn := Lib.hid (HBc.out.trans (hbn.mono HBc.out.size))
                have hSn : wn.cell? ⟨g5, 0, none⟩ = some (.bool ngN) ∧ wn.cell? ⟨g5, 1, none⟩ = some (.slice AN nN cN) ∧ wn.cell? ⟨g6, 0, none⟩ = some (.bool ngX) ∧ wn.cell? ⟨g6, 1, none⟩ = some (.slice AX nX cX) ∧ wn.cell? ⟨g7, 0, none⟩ = some (.bool ngY) ∧ wn.cell? ⟨g7, 1, none⟩ = some (.slice AY nY cY) ∧ wn.cell? ⟨g8, 0, none⟩ = some (.bool ngP) ∧ wn.cell? ⟨g8, 1, none⟩ = some (.slice AP nP cP) ∧ wn.cell? ⟨g9, 0, none⟩ = some (.bool ngQ) ∧ wn.cell? ⟨g9, 1, none⟩ = some (.slice AQ nQ cQ) := ⟨(hbn.cell (p := ⟨g5, 0, none⟩) hg_0).trans hS.1, (hbn.cell (p := ⟨g5, 1, none⟩) hg_0).trans hS.2.1, (hbn.cell (p := ⟨g6, 0, none⟩) hg_1).trans hS.2.2.1, (hbn.cell (p := ⟨g6, 1, none⟩) hg_1).trans hS.2.2.2.1, (hbn.cell (p := ⟨g7, 0, none⟩) hg_2).trans hS.2.2.2.2.1, (hbn.cell (p := ⟨g7, 1, none⟩) hg_2).trans hS.2.2.2.2.2.1, (hbn.cell (p := ⟨g8, 0, none⟩) hg_3).trans hS.2.2.2.2.2.2.1, (hbn.cell (p := ⟨g8, 1, none⟩) hg_3).trans hS.2.2.2.2.2.2.2.1, (hbn.cell (p := ⟨g9, 0, none⟩) hg_4).trans hS.2.2.2.2.2.2.2.2.1, (hbn.cell (p := ⟨g9, 1, none⟩) hg_4).trans hS.2.2.2.2.2.2.2.2.2⟩
                have hgn_0 := Nat.lt_of_lt_of_le hg_0 hbn.size
                have hgn_1 := Nat.lt_of_lt_of_le hg_1 hbn.size
                have hgn_2 := Nat.lt_of_lt_of_le hg_2 hbn.size
                have hgn_3 := Nat.lt_of_lt_of_le hg_3 hbn.size
                have hgn_4 := Nat.lt_of_lt_of_le hg_4 hbn.size
                refine hK.out _ _ hSn ?_
                clear hK K hS HBc hg_0 hg_1 hg_2 hg_3 hg_4
                try simp only [List.getElem_toArray, List.getElem_cons_succ, List.getElem_cons_zero, Act.put, List.setIfInBounds_toArray, List.set_cons_zero, List.set_cons_succ]
                have hS := hSn
                have HBc := HBn
                have hg_0 := hgn_0
                have hg_1 := hgn_1
                have hg_2 := hgn_2
                have hg_3 := hgn_3
                have hg_4 := hgn_4
                clear hSn HBn hbn hgn_0 hgn_1 hgn_2 hgn_3 hgn_4
                obtain ⟨wc, rfl⟩ : ∃ x : World, x = wn := ⟨_, rfl⟩
                refine HT.one (i := 13) (o := _) rfl (by kernel_rfl) (by decide) (by rfl) ?_
                intro K hK
                go_simp
                refine (ISUB_any ng4 ng5 A4 A5 n4 c4 n5 c5 _ _ (by omega) (by omega) _ wc.heap.size (Nat.le_refl _) H4 H5).mono ?_
                rintro e wn ⟨ng6, A6, n6, c6, rfl, hH6, k6, hbn⟩
                have H6 := Lib.hid hH6
                clear hH6
                clear H4 H5
                replace H3 := Lib.hid (H3.out.to hbn (Nat.le_refl _) hbn.size)
                replace HA := Lib.hid ((hbn.block g14 (blk_lt HA.out)).trans HA.out)
                have HBn := Lib.hid (HBc.out.trans (hbn.mono HBc.out.size))
                have hSn : wn.cell? ⟨g5, 0, none⟩ = some (.bool ngN) ∧ wn.cell? ⟨g5, 1, none⟩ = some (.slice AN nN cN) ∧ wn.cell? ⟨g6, 0, none⟩ = some (.bool ngX) ∧ wn.cell? ⟨g6, 1, none⟩ = some (.slice AX nX cX) ∧ wn.cell? ⟨g7, 0, none⟩ = some (.bool ngY) ∧ wn.cell? ⟨g7, 1, none⟩ = some (.slice AY nY cY) ∧ wn.cell? ⟨g8, 0, none⟩ = some (.bool ngP) ∧ wn.cell? ⟨g8, 1, none⟩ = some (.slice AP nP cP) ∧ wn.cell? ⟨g9, 0, none⟩ = some (.bool ngQ) ∧ wn.cell? ⟨g9, 1, none⟩ = some (.slice AQ nQ cQ) := ⟨(hbn.cell (p := ⟨g5, 0, none⟩) hg_0).trans hS.1, (hbn.cell (p := ⟨g5, 1, none⟩) hg_0).trans hS.2.1, (hbn.cell (p := ⟨g6, 0, none⟩) hg_1).trans hS.2.2.1, (hbn.cell (p := ⟨g6, 1, none⟩) hg_1).trans hS.2.2.2.1, (hbn.cell (p := ⟨g7, 0, none⟩) hg_2).trans hS.2.2.2.2.1, (hbn.cell (p := ⟨g7, 1, none⟩) hg_2).trans hS.2.2.2.2.2.1, (hbn.cell (p := ⟨g8, 0, none⟩) hg_3).trans hS.2.2.2.2.2.2.1, (hbn.cell (p := ⟨g8, 1, none⟩) hg_3).trans hS.2.2.2.2.2.2.2.1, (hbn.cell (p := ⟨g9, 0, none⟩) hg_4).trans hS.2.2.2.2.2.2.2.2.1, (hbn.cell (p := ⟨g9, 1, none⟩) hg_4).trans hS.2.2.2.2.2.2.2.2.2⟩
                have hgn_0 := Nat.lt_of_lt_of_le hg_0 hbn.size
                have hgn_1 := Nat.lt_of_lt_of_le hg_1 hbn.size
                have hgn_2 := Nat.lt_of_lt_of_le hg_2 hbn.size
                have hgn_3 := Nat.lt_of_lt_of_le hg_3 hbn.size
                have hgn_4 := Nat.lt_of_lt_of_le hg_4 hbn.size
                refine hK.out _ _ hSn ?_
                clear hK K hS HBc hg_0 hg_1 hg_2 hg_3 hg_4
                try simp only [List.getElem_toArray, List.getElem_cons_succ, List.getElem_cons_zero, Act.put, List.setIfInBounds_toArray, List.set_cons_zero, List.set_cons_succ]
                have hS := hSn
                have HBc := HBn
                have hg_0 := hgn_0
                have hg_1 := hgn_1
                have hg_2 := hgn_2
                have hg_3 := hgn_3
                have hg_4 := hgn_4
                clear hSn HBn hbn hgn_0 hgn_1 hgn_2 hgn_3 hgn_4
                obtain ⟨wc, rfl⟩ : ∃ x : World, x = wn := ⟨_, rfl⟩
                refine HT.take (i := 14) (oi := _) (v := .slice A6 n6 c6) rfl (by kernel_rfl) (by kernel_rfl) (by decide) (fun _ _ _ h => h) (Or.inl ⟨by rfl, ?_⟩) hS ?_
                · intro wz
                  first | exact (run_field_i1 ng6 A6 n6 c6 wz) | (go_simp; done) | (go_simp; exact (run_field_i1 ng6 A6 n6 c6 wz)) | (go_simp; simp only [(run_field_i1 ng6 A6 n6 c6 wz)]; rfl) | (go_simp; simp only [(run_field_i1 ng6 A6 n6 c6 wz)])
                simp only [List.getElem_toArray, List.getElem_cons_succ, List.getElem_cons_zero, Act.put, List.setIfInBounds_toArray, List.set_cons_zero, List.set_cons_succ]
                refine HT.one (i := 15) (o := _) rfl (by kernel_rfl) (by decide) (by rfl) ?_
                intro K hK
                go_simp
                refine (QOVER_any ng3 A3 A6 n3 c3 n6 c6 _ _ (by omega) (by omega) HDP.out _ wc.heap.size (Nat.le_refl _) H3 (Lib.hid H6.out.2)).mono ?_
                rintro e wn ⟨ng7, A7, n7, c7, D7, d7, e7, rfl, hR7, k7, m7, hbn⟩
                obtain ⟨hH7, hG7⟩ := hR7
                have H7 := Lib.hid hH7
                clear hH7
                have G7 := Lib.hid hG7
                clear hG7
                clear H3 H6
                replace HA := Lib.hid ((hbn.block g14 (blk_lt HA.out)).trans HA.out)
                have HBn := Lib.hid (HBc.out.trans (hbn.mono HBc.out.size))
                have hSn : wn.cell? ⟨g5, 0, none⟩ = some (.bool ngN) ∧ wn.cell? ⟨g5, 1, none⟩ = some (.slice AN nN cN) ∧ wn.cell? ⟨g6, 0, none⟩ = some (.bool ngX) ∧ wn.cell? ⟨g6, 1, none⟩ = some (.slice AX nX cX) ∧ wn.cell? ⟨g7, 0, none⟩ = some (.bool ngY) ∧ wn.cell? ⟨g7, 1, none⟩ = some (.slice AY nY cY) ∧ wn.cell? ⟨g8, 0, none⟩ = some (.bool ngP) ∧ wn.cell? ⟨g8, 1, none⟩ = some (.slice AP nP cP) ∧ wn.cell? ⟨g9, 0, none⟩ = some (.bool ngQ) ∧ wn.cell? ⟨g9, 1, none⟩ = some (.slice AQ nQ cQ) := ⟨(hbn.cell (p := ⟨g5, 0, none⟩) hg_0).trans hS.1, (hbn.cell (p := ⟨g5, 1, none⟩) hg_0).trans hS.2.1, (hbn.cell (p := ⟨g6, 0, none⟩) hg_1).trans hS.2.2.1, (hbn.cell (p := ⟨g6, 1, none⟩) hg_1).trans hS.2.2.2.1, (hbn.cell (p := ⟨g7, 0, none⟩) hg_2).trans hS.2.2.2.2.1, (hbn.cell (p := ⟨g7, 1, none⟩) hg_2).trans hS.2.2.2.2.2.1, (hbn.cell (p := ⟨g8, 0, none⟩) hg_3).trans hS.2.2.2.2.2.2.1, (hbn.cell (p := ⟨g8, 1, none⟩) hg_3).trans hS.2.2.2.2.2.2.2.1, (hbn.cell (p := ⟨g9, 0, none⟩) hg_4).trans hS.2.2.2.2.2.2.2.2.1, (hbn.cell (p := ⟨g9, 1, none⟩) hg_4).trans hS.2.2.2.2.2.2.2.2.2⟩
                have hgn_0 := Nat.lt_of_lt_of_le hg_0 hbn.size
                have hgn_1 := Nat.lt_of_lt_of_le hg_1 hbn.size
                have hgn_2 := Nat.lt_of_lt_of_le hg_2 hbn.size
                have hgn_3 := Nat.lt_of_lt_of_le hg_3 hbn.size
                have hgn_4 := Nat.lt_of_lt_of_le hg_4 hbn.size
                refine hK.out _ _ hSn ?_
                clear hK K hS HBc hg_0 hg_1 hg_2 hg_3 hg_4
                try simp only [List.getElem_toArray, List.getElem_cons_succ, List.getElem_cons_zero, Act.put, List.setIfInBounds_toArray, List.set_cons_zero, List.set_cons_succ]
                have hS := hSn
                have HBc := HBn
                have hg_0 := hgn_0
                have hg_1 := hgn_1
                have hg_2 := hgn_2
                have hg_3 := hgn_3
                have hg_4 := hgn_4
                clear hSn HBn hbn hgn_0 hgn_1 hgn_2 hgn_3 hgn_4
                obtain ⟨wc, rfl⟩ : ∃ x : World, x = wn := ⟨_, rfl⟩
                obtain ⟨r0, r1, r2, f0, f1, f2⟩ := three_cells HA.out
                refine HT.done (by kernel_rfl) ?_
                clear hS
                simp only [List.drop_succ_cons, List.drop_zero]
                have HQB := Lib.hid (QBox.store (k := 2 * n + 11) (m := 2 * n + 11) HA.out ⟨H7.out, G7.out⟩ (by omega) (by omega))
                have HBS := Lib.hid (box3_below (v0 := .bool ng7) (v1 := .slice A7 n7 c7) (v2 := .slice D7 d7 e7) HBc.out HGg14.out)
                go_wp2_with fail
                go_meet
                exact ⟨g14, rfl, HQB, HBS⟩
                -- H7 G7 HA
            · intro K hK
              go_simp
              obtain ⟨wn, g14, hwn, hga9, hHA, hbn0, _⟩ := cell_new0 wc 42 #[.bool false, .slice none 0 0, .slice none 0 0]
              have hbn := hbn0.out
              have HGg14 : Hid (W.heap.size ≤ g14) := by show _ ≤ _; rw [hga9]; exact HBc.out.size
              rw [← hwn, ← hga9]
              have HA := hHA
              clear hwn hga9 hbn0 hHA
              replace HN := Lib.hid (HN.out.to hbn (Nat.le_refl _) hbn.size)
              replace HX := Lib.hid (HX.out.to hbn (Nat.le_refl _) hbn.size)
              replace HP := Lib.hid (HP.out.to hbn (Nat.le_refl _) hbn.size)
              replace H3 := Lib.hid (H3.out.to hbn (Nat.le_refl _) hbn.size)
              have HBn := Lib.hid (HBc.out.trans (hbn.mono HBc.out.size))
              have hSn : wn.cell? ⟨g5, 0, none⟩ = some (.bool ngN) ∧ wn.cell? ⟨g5, 1, none⟩ = some (.slice AN nN cN) ∧ wn.cell? ⟨g6, 0, none⟩ = some (.bool ngX) ∧ wn.cell? ⟨g6, 1, none⟩ = some (.slice AX nX cX) ∧ wn.cell? ⟨g7, 0, none⟩ = some (.bool ngY) ∧ wn.cell? ⟨g7, 1, none⟩ = some (.slice AY nY cY) ∧ wn.cell? ⟨g8, 0, none⟩ = some (.bool ngP) ∧ wn.cell? ⟨g8, 1, none⟩ = some (.slice AP nP cP) ∧ wn.cell? ⟨g9, 0, none⟩ = some (.bool ngQ) ∧ wn.cell? ⟨g9, 1, none⟩ = some (.slice AQ nQ cQ) := ⟨(hbn.cell (p := ⟨g5, 0, none⟩) hg_0).trans hS.1, (hbn.cell (p := ⟨g5, 1, none⟩) hg_0).trans hS.2.1, (hbn.cell (p := ⟨g6, 0, none⟩) hg_1).trans hS.2.2.1, (hbn.cell (p := ⟨g6, 1, none⟩) hg_1).trans hS.2.2.2.1, (hbn.cell (p := ⟨g7, 0, none⟩) hg_2).trans hS.2.2.2.2.1, (hbn.cell (p := ⟨g7, 1, none⟩) hg_2).trans hS.2.2.2.2.2.1, (hbn.cell (p := ⟨g8, 0, none⟩) hg_3).trans hS.2.2.2.2.2.2.1, (hbn.cell (p := ⟨g8, 1, none⟩) hg_3).trans hS.2.2.2.2.2.2.2.1, (hbn.cell (p := ⟨g9, 0, none⟩) hg_4).trans hS.2.2.2.2.2.2.2.2.1, (hbn.cell (p := ⟨g9, 1, none⟩) hg_4).trans hS.2.2.2.2.2.2.2.2.2⟩
              have hgn_0 := Nat.lt_of_lt_of_le hg_0 hbn.size
              have hgn_1 := Nat.lt_of_lt_of_le hg_1 hbn.size
              have hgn_2 := Nat.lt_of_lt_of_le hg_2 hbn.size
              have hgn_3 := Nat.lt_of_lt_of_le hg_3 hbn.size
              have hgn_4 := Nat.lt_of_lt_of_le hg_4 hbn.size
              refine hK.out _ _ hSn ?_
              clear hK K hS HBc hg_0 hg_1 hg_2 hg_3 hg_4
              try simp only [List.getElem_toArray, List.getElem_cons_succ, List.getElem_cons_zero, Act.put, List.setIfInBounds_toArray, List.set_cons_zero, List.set_cons_succ]
              have hS := hSn
              have HBc := HBn
              have hg_0 := hgn_0
              have hg_1 := hgn_1
              have hg_2 := hgn_2
              have hg_3 := hgn_3
              have hg_4 := hgn_4
              clear hSn HBn hbn hgn_0 hgn_1 hgn_2 hgn_3 hgn_4
              obtain ⟨wc, rfl⟩ : ∃ x : World, x = wn := ⟨_, rfl⟩
              refine HT.one (i := 9) (o := _) rfl (by kernel_rfl) (by decide) (by rfl) ?_
              intro K hK
              go_simp
              refine (IMUL_any ngN ngP AN AP nN cN nP cP _ _ (by omega) (by omega) _ wc.heap.size (Nat.le_refl _) HN HP).mono ?_
              rintro e wn ⟨ng4, A4, n4, c4, rfl, hH4, k4, hbn⟩
              have H4 := Lib.hid hH4
              clear hH4
              clear HN HP
              replace HX := Lib.hid (HX.out.to hbn (Nat.le_refl _) hbn.size)
              replace H3 := Lib.hid (H3.out.to hbn (Nat.le_refl _) hbn.size)
              replace HA := Lib.hid ((hbn.block g14 (blk_lt HA.out)).trans HA.out)
              have HBn := Lib.hid (HBc.out.trans (hbn.mono HBc.out.size))
              have hSn : wn.cell? ⟨g5, 0, none⟩ = some (.bool ngN) ∧ wn.cell? ⟨g5, 1, none⟩ = some (.slice AN nN cN) ∧ wn.cell? ⟨g6, 0, none⟩ = some (.bool ngX) ∧ wn.cell? ⟨g6, 1, none⟩ = some (.slice AX nX cX) ∧ wn.cell? ⟨g7, 0, none⟩ = some (.bool ngY) ∧ wn.cell? ⟨g7, 1, none⟩ = some (.slice AY nY cY) ∧ wn.cell? ⟨g8, 0, none⟩ = some (.bool ngP) ∧ wn.cell? ⟨g8, 1, none⟩ = some (.slice AP nP cP) ∧ wn.cell? ⟨g9, 0, none⟩ = some (.bool ngQ) ∧ wn.cell? ⟨g9, 1, none⟩ = some (.slice AQ nQ cQ) := ⟨(hbn.cell (p := ⟨g5, 0, none⟩) hg_0).trans hS.1, (hbn.cell (p := ⟨g5, 1, none⟩) hg_0).trans hS.2.1, (hbn.cell (p := ⟨g6, 0, none⟩) hg_1).trans hS.2.2.1, (hbn.cell (p := ⟨g6, 1, none⟩) hg_1).trans hS.2.2.2.1, (hbn.cell (p := ⟨g7, 0, none⟩) hg_2).trans hS.2.2.2.2.1, (hbn.cell (p := ⟨g7, 1, none⟩) hg_2).trans hS.2.2.2.2.2.1, (hbn.cell (p := ⟨g8, 0, none⟩) hg_3).trans hS.2.2.2.2.2.2.1, (hbn.cell (p := ⟨g8, 1, none⟩) hg_3).trans hS.2.2.2.2.2.2.2.1, (hbn.cell (p := ⟨g9, 0, none⟩) hg_4).trans hS.2.2.2.2.2.2.2.2.1, (hbn.cell (p := ⟨g9, 1, none⟩) hg_4).trans hS.2.2.2.2.2.2.2.2.2⟩
              have hgn_0 := Nat.lt_of_lt_of_le hg_0 hbn.size
              have hgn_1 := Nat.lt_of_lt_of_le hg_1 hbn.size
              have hgn_2 := Nat.lt_of_lt_of_le hg_2 hbn.size
              have hgn_3 := Nat.lt_of_lt_of_le hg_3 hbn.size
              have hgn_4 := Nat.lt_of_lt_of_le hg_4 hbn.size
              refine hK.out _ _ hSn ?_
              clear hK K hS HBc hg_0 hg_1 hg_2 hg_3 hg_4
              try simp only [List.getElem_toArray, List.getElem_cons_succ, List.getElem_cons_zero, Act.put, List.setIfInBounds_toArray, List.set_cons_zero, List.set_cons_succ]
              have hS := hSn
              have HBc := HBn
              have hg_0 := hgn_0
              have hg_1 := hgn_1
              have hg_2 := hgn_2
              have hg_3 := hgn_3
              have hg_4 := hgn_4
              clear hSn HBn hbn hgn_0 hgn_1 hgn_2 hgn_3 hgn_4
              obtain ⟨wc, rfl⟩ : ∃ x : World, x = wn := ⟨_, rfl⟩
              refine HT.one (i := 12) (o := _) rfl (by kernel_rfl) (by decide) (by rfl) ?_
              intro K hK
              go_simp
              refine (IMUL_any ngX ngX AX AX nX cX nX cX _ _ (by omega) (by omega) _ wc.heap.size (Nat.le_refl _) HX HX).mono ?_
              rintro e wn ⟨ng5, A5, n5, c5, rfl, hH5, k5, hbn⟩
              have H5 := Lib.hid hH5
              clear hH5
              clear HX
              replace H3 := Lib.hid (H3.out.to hbn (Nat.le_refl _) hbn.size)
              replace HA := Lib.hid ((hbn.block g14 (blk_lt HA.out)).trans HA.out)
              replace H4 := Lib.hid (H4.out.to hbn (Nat.le_refl _) hbn.size)
              have HBn := Lib.hid (HBc.out.trans (hbn.mono HBc.out.size))
              have hSn : wn.cell? ⟨g5, 0, none⟩ = some (.bool ngN) ∧ wn.cell? ⟨g5, 1, none⟩ = some (.slice AN nN cN) ∧ wn.cell? ⟨g6, 0, none⟩ = some (.bool ngX) ∧ wn.cell? ⟨g6, 1, none⟩ = some (.slice AX nX cX) ∧ wn.cell? ⟨g7, 0, none⟩ = some (.bool ngY) ∧ wn.cell? ⟨g7, 1, none⟩ = some (.slice AY nY cY) ∧ wn.cell? ⟨g8, 0, none⟩ = some (.bool ngP) ∧ wn.cell? ⟨g8, 1, none⟩ = some (.slice AP nP cP) ∧ wn.cell? ⟨g9, 0, none⟩ = some (.bool ngQ) ∧ wn.cell? ⟨g9, 1, none⟩ = some (.slice AQ nQ cQ) := ⟨(hbn.cell (p := ⟨g5, 0, none⟩) hg_0).trans hS.1, (hbn.cell (p := ⟨g5, 1, none⟩) hg_0).trans hS.2.1, (hbn.cell (p := ⟨g6, 0, none⟩) hg_1).trans hS.2.2.1, (hbn.cell (p := ⟨g6, 1, none⟩) hg_1).trans hS.2.2.2.1, (hbn.cell (p := ⟨g7, 0, none⟩) hg_2).trans hS.2.2.2.2.1, (hbn.cell (p := ⟨g7, 1, none⟩) hg_2).trans hS.2.2.2.2.2.1, (hbn.cell (p := ⟨g8, 0, none⟩) hg_3).trans hS.2.2.2.2.2.2.1, (hbn.cell (p := ⟨g8, 1, none⟩) hg_3).trans hS.2.2.2.2.2.2.2.1, (hbn.cell (p := ⟨g9, 0, none⟩) hg_4).trans hS.2.2.2.2.2.2.2.2.1, (hbn.cell (p := ⟨g9, 1, none⟩) hg_4).trans hS.2.2.2.2.2.2.2.2.2⟩
              have hgn_0 := Nat.lt_of_lt_of_le hg_0 hbn.size
              have hgn_1 := Nat.lt_of_lt_of_le hg_1 hbn.size
              have hgn_2 := Nat.lt_of_lt_of_le hg_2 hbn.size
              have hgn_3 := Nat.lt_of_lt_of_le hg_3 hbn.size
              have hgn_4 := Nat.lt_of_lt_of_le hg_4 hbn.size
              refine hK.out _ _ hSn ?_
              clear hK K hS HBc hg_0 hg_1 hg_2 hg_3 hg_4
              try simp only [List.getElem_toArray, List.getElem_cons_succ, List.getElem_cons_zero, Act.put, List.setIfInBounds_toArray, List.set_cons_zero, List.set_cons_succ]
              have hS := hSn
              have HBc := HBn
              have hg_0 := hgn_0
              have hg_1 := hgn_1
              have hg_2 := hgn_2
              have hg_3 := hgn_3
              have hg_4 := hgn_4
              clear hSn HBn hbn hgn_0 hgn_1 hgn_2 hgn_3 hgn_4
              obtain ⟨wc, rfl⟩ : ∃ x : World, x = wn := ⟨_, rfl⟩
              refine HT.one (i := 13) (o := _) rfl (by kernel_rfl) (by decide) (by rfl) ?_
              intro K hK
              go_simp
              refine (ISUB_any ng4 ng5 A4 A5 n4 c4 n5 c5 _ _ (by omega) (by omega) _ wc.heap.size (Nat.le_refl _) H4 H5).mono ?_
              rintro e wn ⟨ng6, A6, n6, c6, rfl, hH6, k6, hbn⟩
              have H6 := Lib.hid hH6
              clear hH6
              clear H4 H5
              replace H3 := Lib.hid (H3.out.to hbn (Nat.le_refl _) hbn.size)
              replace HA := Lib.hid ((hbn.block g14 (blk_lt HA.out)).trans HA.out)
              have HBn := Lib.hid (HBc.out.trans (hbn.mono HBc.out.size))
              have hSn : wn.cell? ⟨g5, 0, none⟩ = some (.bool ngN) ∧ wn.cell? ⟨g5, 1, none⟩ = some (.slice AN nN cN) ∧ wn.cell? ⟨g6, 0, none⟩ = some (.bool ngX) ∧ wn.cell? ⟨g6, 1, none⟩ = some (.slice AX nX cX) ∧ wn.cell? ⟨g7, 0, none⟩ = some (.bool ngY) ∧ wn.cell? ⟨g7, 1, none⟩ = some (.slice AY nY cY) ∧ wn.cell? ⟨g8, 0, none⟩ = some (.bool ngP) ∧ wn.cell? ⟨g8, 1, none⟩ = some (.slice AP nP cP) ∧ wn.cell? ⟨g9, 0, none⟩ = some (.bool ngQ) ∧ wn.cell? ⟨g9, 1, none⟩ = some (.slice AQ nQ cQ) := ⟨(hbn.cell (p := ⟨g5, 0, none⟩) hg_0).trans hS.1, (hbn.cell (p := ⟨g5, 1, none⟩) hg_0).trans hS.2.1, (hbn.cell (p := ⟨g6, 0, none⟩) hg_1).trans hS.2.2.1, (hbn.cell (p := ⟨g6, 1, none⟩) hg_1).trans hS.2.2.2.1, (hbn.cell (p := ⟨g7, 0, none⟩) hg_2).trans hS.2.2.2.2.1, (hbn.cell (p := ⟨g7, 1, none⟩) hg_2).trans hS.2.2.2.2.2.1, (hbn.cell (p := ⟨g8, 0, none⟩) hg_3).trans hS.2.2.2.2.2.2.1, (hbn.cell (p := ⟨g8, 1, none⟩) hg_3).trans hS.2.2.2.2.2.2.2.1, (hbn.cell (p := ⟨g9, 0, none⟩) hg_4).trans hS.2.2.2.2.2.2.2.2.1, (hbn.cell (p := ⟨g9, 1, none⟩) hg_4).trans hS.2.2.2.2.2.2.2.2.2⟩
              have hgn_0 := Nat.lt_of_lt_of_le hg_0 hbn.size
              have hgn_1 := Nat.lt_of_lt_of_le hg_1 hbn.size
              have hgn_2 := Nat.lt_of_lt_of_le hg_2 hbn.size
              have hgn_3 := Nat.lt_of_lt_of_le hg_3 hbn.size
              have hgn_4 := Nat.lt_of_lt_of_le hg_4 hbn.size
              refine hK.out _ _ hSn ?_
              clear hK K hS HBc hg_0 hg_1 hg_2 hg_3 hg_4
              try simp only [List.getElem_toArray, List.getElem_cons_succ, List.getElem_cons_zero, Act.put, List.setIfInBounds_toArray, List.set_cons_zero, List.set_cons_succ]
              have hS := hSn
              have HBc := HBn
              have hg_0 := hgn_0
              have hg_1 := hgn_1
              have hg_2 := hgn_2
              have hg_3 := hgn_3
              have hg_4 := hgn_4
              clear hSn HBn hbn hgn_0 hgn_1 hgn_2 hgn_3 hgn_4
              obtain ⟨wc, rfl⟩ : ∃ x : World, x = wn := ⟨_, rfl⟩
              refine HT.take (i := 14) (oi := _) (v := .slice A6 n6 c6) rfl (by kernel_rfl) (by kernel_rfl) (by decide) (fun _ _ _ h => h) (Or.inl ⟨by rfl, ?_⟩) hS ?_
              · intro wz
                first | exact (run_field_i1 ng6 A6 n6 c6 wz) | (go_simp; done) | (go_simp; exact (run_field_i1 ng6 A6 n6 c6 wz)) | (go_simp; simp only [(run_field_i1 ng6 A6 n6 c6 wz)]; rfl) | (go_simp; simp only [(run_field_i1 ng6 A6 n6 c6 wz)])
              simp only [List.getElem_toArray, List.getElem_cons_succ, List.getElem_cons_zero, Act.put, List.setIfInBounds_toArray, List.set_cons_zero, List.set_cons_succ]
              refine HT.one (i := 15) (o := _) rfl (by kernel_rfl) (by decide) (by rfl) ?_
              intro K hK
              go_simp
              refine (QOVER_any ng3 A3 A6 n3 c3 n6 c6 _ _ (by omega) (by omega) HDP.out _ wc.heap.size (Nat.le_refl _) H3 (Lib.hid H6.out.2)).mono ?_
              rintro e wn ⟨ng7, A7, n7, c7, D7, d7, e7, rfl, hR7, k7, m7, hbn⟩
              obtain ⟨hH7, hG7⟩ := hR7
              have H7 := Lib.hid hH7
              clear hH7
              have G7 := Lib.hid hG7
              clear hG7
              clear H3 H6
              replace HA := Lib.hid ((hbn.block g14 (blk_lt HA.out)).trans HA.out)
              have HBn := Lib.hid (HBc.out.trans (hbn.mono HBc.out.size))
              have hSn : wn.cell? ⟨g5, 0, none⟩ = some (.bool ngN) ∧ wn.cell? ⟨g5, 1, none⟩ = some (.slice AN nN cN) ∧ wn.cell? ⟨g6, 0, none⟩ = some (.bool ngX) ∧ wn.cell? ⟨g6, 1, none⟩ = some (.slice AX nX cX) ∧ wn.cell? ⟨g7, 0, none⟩ = some (.bool ngY) ∧ wn.cell? ⟨g7, 1, none⟩ = some (.slice AY nY cY) ∧ wn.cell? ⟨g8, 0, none⟩ = some (.bool ngP) ∧ wn.cell? ⟨g8, 1, none⟩ = some (.slice AP nP cP) ∧ wn.cell? ⟨g9, 0, none⟩ = some (.bool ngQ) ∧ wn.cell? ⟨g9, 1, none⟩ = some (.slice AQ nQ cQ) := ⟨(hbn.cell (p := ⟨g5, 0, none⟩) hg_0).trans hS.1, (hbn.cell (p := ⟨g5, 1, none⟩) hg_0).trans hS.2.1, (hbn.cell (p := ⟨g6, 0, none⟩) hg_1).trans hS.2.2.1, (hbn.cell (p := ⟨g6, 1, none⟩) hg_1).trans hS.2.2.2.1, (hbn.cell (p := ⟨g7, 0, none⟩) hg_2).trans hS.2.2.2.2.1, (hbn.cell (p := ⟨g7, 1, none⟩) hg_2).trans hS.2.2.2.2.2.1, (hbn.cell (p := ⟨g8, 0, none⟩) hg_3).trans hS.2.2.2.2.2.2.1, (hbn.cell (p := ⟨g8, 1, none⟩) hg_3).trans hS.2.2.2.2.2.2.2.1, (hbn.cell (p := ⟨g9, 0, none⟩) hg_4).trans hS.2.2.2.2.2.2.2.2.1, (hbn.cell (p := ⟨g9, 1, none⟩) hg_4).trans hS.2.2.2.2.2.2.2.2.2⟩
              have hgn_0 := Nat.lt_of_lt_of_le hg_0 hbn.size
              have hgn_1 := Nat.lt_of_lt_of_le hg_1 hbn.size
              have hgn_2 := Nat.lt_of_lt_of_le hg_2 hbn.size
              have hgn_3 := Nat.lt_of_lt_of_le hg_3 hbn.size
              have hgn_4 := Nat.lt_of_lt_of_le hg_4 hbn.size
              refine hK.out _ _ hSn ?_
              clear hK K hS HBc hg_0 hg_1 hg_2 hg_3 hg_4
              try simp only [List.getElem_toArray, List.getElem_cons_succ, List.getElem_cons_zero, Act.put, List.setIfInBounds_toArray, List.set_cons_zero, List.set_cons_succ]
              have hS := hSn
              have HBc := HBn
              have hg_0 := hgn_0
              have hg_1 := hgn_1
              have hg_2 := hgn_2
              have hg_3 := hgn_3
              have hg_4 := hgn_4
              clear hSn HBn hbn hgn_0 hgn_1 hgn_2 hgn_3 hgn_4
              obtain ⟨wc, rfl⟩ : ∃ x : World, x = wn := ⟨_, rfl⟩
              obtain ⟨r0, r1, r2, f0, f1, f2⟩ := three_cells HA.out
              refine HT.done (by kernel_rfl) ?_
              clear hS
              simp only [List.drop_succ_cons, List.drop_zero]
              have HQB := Lib.hid (QBox.store (k := 2 * n + 11) (m := 2 * n + 11) HA.out ⟨H7.out, G7.out⟩ (by omega) (by omega))
              have HBS := Lib.hid (box3_below (v0 := .bool ng7) (v1 := .slice A7 n7 c7) (v2 := .slice D7 d7 e7) HBc.out HGg14.out)
              go_wp2_with fail
              go_meet
              exact ⟨g14, rfl, HQB, HBS⟩
              -- H7 G7 HA
          · intro K hK
            go_simp
            obtain ⟨wn, g14, hwn, hga9, hHA, hbn0, _⟩ := cell_new0 wc 42 #[.bool false, .slice none 0 0, .slice none 0 0]
            have hbn := hbn0.out
            have HGg14 : Hid (W.heap.size ≤ g14) := by show _ ≤ _; rw [hga9]; exact HBc.out.size
            rw [← hwn, ← hga9]
            have HA := hHA
            clear hwn hga9 hbn0 hHA
            replace HN := Lib.hid (HN.out.to hbn (Nat.le_refl _) hbn.size)
            replace HX := Lib.hid (HX.out.to hbn (Nat.le_refl _) hbn.size)
            replace HP := Lib.hid (HP.out.to hbn (Nat.le_refl _) hbn.size)
            replace H1 := Lib.hid (H1.out.to hbn (Nat.le_refl _) hbn.size)
            replace H2 := Lib.hid (H2.out.to hbn (Nat.le_refl _) hbn.size)
            have HBn := Lib.hid (HBc.out.trans (hbn.mono HBc.out.size))
            have hSn : wn.cell? ⟨g5, 0, none⟩ = some (.bool ngN) ∧ wn.cell? ⟨g5, 1, none⟩ = some (.slice AN nN cN) ∧ wn.cell? ⟨g6, 0, none⟩ = some (.bool ngX) ∧ wn.cell? ⟨g6, 1, none⟩ = some (.slice AX nX cX) ∧ wn.cell? ⟨g7, 0, none⟩ = some (.bool ngY) ∧ wn.cell? ⟨g7, 1, none⟩ = some (.slice AY nY cY) ∧ wn.cell? ⟨g8, 0, none⟩ = some (.bool ngP) ∧ wn.cell? ⟨g8, 1, none⟩ = some (.slice AP nP cP) ∧ wn.cell? ⟨g9, 0, none⟩ = some (.bool ngQ) ∧ wn.cell? ⟨g9, 1, none⟩ = some (.slice AQ nQ cQ) := ⟨(hbn.cell (p := ⟨g5, 0, none⟩) hg_0).trans hS.1, (hbn.cell (p := ⟨g5, 1, none⟩) hg_0).trans hS.2.1, (hbn.cell (p := ⟨g6, 0, none⟩) hg_1).trans hS.2.2.1, (hbn.cell (p := ⟨g6, 1, none⟩) hg_1).trans hS.2.2.2.1, (hbn.cell (p := ⟨g7, 0, none⟩) hg_2).trans hS.2.2.2.2.1, (hbn.cell (p := ⟨g7, 1, none⟩) hg_2).trans hS.2.2.2.2.2.1, (hbn.cell (p := ⟨g8, 0, none⟩) hg_3).trans hS.2.2.2.2.2.2.1, (hbn.cell (p := ⟨g8, 1, none⟩) hg_3).trans hS.2.2.2.2.2.2.2.1, (hbn.cell (p := ⟨g9, 0, none⟩) hg_4).trans hS.2.2.2.2.2.2.2.2.1, (hbn.cell (p := ⟨g9, 1, none⟩) hg_4).trans hS.2.2.2.2.2.2.2.2.2⟩
            have hgn_0 := Nat.lt_of_lt_of_le hg_0 hbn.size
            have hgn_1 := Nat.lt_of_lt_of_le hg_1 hbn.size
            have hgn_2 := Nat.lt_of_lt_of_le hg_2 hbn.size
            have hgn_3 := Nat.lt_of_lt_of_le hg_3 hbn.size
            have hgn_4 := Nat.lt_of_lt_of_le hg_4 hbn.size
            refine hK.out _ _ hSn ?_
            clear hK K hS HBc hg_0 hg_1 hg_2 hg_3 hg_4
            try simp only [List.getElem_toArray, List.getElem_cons_succ, List.getElem_cons_zero, Act.put, List.setIfInBounds_toArray, List.set_cons_zero, List.set_cons_succ]
            have hS := hSn
            have HBc := HBn
            have hg_0 := hgn_0
            have hg_1 := hgn_1
            have hg_2 := hgn_2
            have hg_3 := hgn_3
            have hg_4 := hgn_4
            clear hSn HBn hbn hgn_0 hgn_1 hgn_2 hgn_3 hgn_4
            obtain ⟨wc, rfl⟩ : ∃ x : World, x = wn := ⟨_, rfl⟩
            refine HT.one (i := 6) (o := _) rfl (by kernel_rfl) (by decide) (by rfl) ?_
            intro K hK
            go_simp
            refine (ISUB_any ng1 ng2 A1 A2 n1 c1 n2 c2 _ _ (by omega) (by omega) _ wc.heap.size (Nat.le_refl _) H1 H2).mono ?_
            rintro e wn ⟨ng3, A3, n3, c3, rfl, hH3, k3, hbn⟩
            have H3 := Lib.hid hH3
            clear hH3
            clear H1 H2
            replace HN := Lib.hid (HN.out.to hbn (Nat.le_refl _) hbn.size)
            replace HX := Lib.hid (HX.out.to hbn (Nat.le_refl _) hbn.size)
            replace HP := Lib.hid (HP.out.to hbn (Nat.le_refl _) hbn.size)
            replace HA := Lib.hid ((hbn.block g14 (blk_lt HA.out)).trans HA.out)
            have HBn := Lib.hid (HBc.out.trans (hbn.mono HBc.out.size))
            have hSn : wn.cell? ⟨g5, 0, none⟩ = some (.bool ngN) ∧ wn.cell? ⟨g5, 1, none⟩ = some (.slice AN nN cN) ∧ wn.cell? ⟨g6, 0, none⟩ = some (.bool ngX) ∧ wn.cell? ⟨g6, 1, none⟩ = some (.slice AX nX cX) ∧ wn.cell? ⟨g7, 0, none⟩ = some (.bool ngY) ∧ wn.cell? ⟨g7, 1, none⟩ = some (.slice AY nY cY) ∧ wn.cell? ⟨g8, 0, none⟩ = some (.bool ngP) ∧ wn.cell? ⟨g8, 1, none⟩ = some (.slice AP nP cP) ∧ wn.cell? ⟨g9, 0, none⟩ = some (.bool ngQ) ∧ wn.cell? ⟨g9, 1, none⟩ = some (.slice AQ nQ cQ) := ⟨(hbn.cell (p := ⟨g5, 0, none⟩) hg_0).trans hS.1, (hbn.cell (p := ⟨g5, 1, none⟩) hg_0).trans hS.2.1, (hbn.cell (p := ⟨g6, 0, none⟩) hg_1).trans hS.2.2.1, (hbn.cell (p := ⟨g6, 1, none⟩) hg_1).trans hS.2.2.2.1, (hbn.cell (p := ⟨g7, 0, none⟩) hg_2).trans hS.2.2.2.2.1, (hbn.cell (p := ⟨g7, 1, none⟩) hg_2).trans hS.2.2.2.2.2.1, (hbn.cell (p := ⟨g8, 0, none⟩) hg_3).trans hS.2.2.2.2.2.2.1, (hbn.cell (p := ⟨g8, 1, none⟩) hg_3).trans hS.2.2.2.2.2.2.2.1, (hbn.cell (p := ⟨g9, 0, none⟩) hg_4).trans hS.2.2.2.2.2.2.2.2.1, (hbn.cell (p := ⟨g9, 1, none⟩) hg_4).trans hS.2.2.2.2.2.2.2.2.2⟩
            have hgn_0 := Nat.lt_of_lt_of_le hg_0 hbn.size
            have hgn_1 := Nat.lt_of_lt_of_le hg_1 hbn.size
            have hgn_2 := Nat.lt_of_lt_of_le hg_2 hbn.size
            have hgn_3 := Nat.lt_of_lt_of_le hg_3 hbn.size
            have hgn_4 := Nat.lt_of_lt_of_le hg_4 hbn.size
            refine hK.out _ _ hSn ?_
            clear hK K hS HBc hg_0 hg_1 hg_2 hg_3 hg_4
            try simp only [List.getElem_toArray, List.getElem_cons_succ, List.getElem_cons_zero, Act.put, List.setIfInBounds_toArray, List.set_cons_zero, List.set_cons_succ]
            have hS := hSn
            have HBc := HBn
            have hg_0 := hgn_0
            have hg_1 := hgn_1
            have hg_2 := hgn_2
            have hg_3 := hgn_3
            have hg_4 := hgn_4
            clear hSn HBn hbn hgn_0 hgn_1 hgn_2 hgn_3 hgn_4
            obtain ⟨wc, rfl⟩ : ∃ x : World, x = wn := ⟨_, rfl⟩
            refine HT.one (i := 9) (o := _) rfl (by kernel_rfl) (by decide) (by rfl) ?_
            intro K hK
            go_simp
            refine (IMUL_any ngN ngP AN AP nN cN nP cP _ _ (by omega) (by omega) _ wc.heap.size (Nat.le_refl _) HN HP).mono ?_
            rintro e wn ⟨ng4, A4, n4, c4, rfl, hH4, k4, hbn⟩
            have H4 := Lib.hid hH4
            clear hH4
            clear HN HP
            replace HX := Lib.hid (HX.out.to hbn (Nat.le_refl _) hbn.size)
            replace HA := Lib.hid ((hbn.block g14 (blk_lt HA.out)).trans HA.out)
            replace H3 := Lib.hid (H3.out.to hbn (Nat.le_refl _) hbn.size)
            have HBn := Lib.hid (HBc.out.trans (hbn.mono HBc.out.size))
            have hSn : wn.cell? ⟨g5, 0, none⟩ = some (.bool ngN) ∧ wn.cell? ⟨g5, 1, none⟩ = some (.slice AN nN cN) ∧ wn.cell? ⟨g6, 0, none⟩ = some (.bool ngX) ∧ wn.cell? ⟨g6, 1, none⟩ = some (.slice AX nX cX) ∧ wn.cell? ⟨g7, 0, none⟩ = some (.bool ngY) ∧ wn.cell? ⟨g7, 1, none⟩ = some (.slice AY nY cY) ∧ wn.cell? ⟨g8, 0, none⟩ = some (.bool ngP) ∧ wn.cell? ⟨g8, 1, none⟩ = some (.slice AP nP cP) ∧ wn.cell? ⟨g9, 0, none⟩ = some (.bool ngQ) ∧ wn.cell? ⟨g9, 1, none⟩ = some (.slice AQ nQ cQ) := ⟨(hbn.cell (p := ⟨g5, 0, none⟩) hg_0).trans hS.1, (hbn.cell (p := ⟨g5, 1, none⟩) hg_0).trans hS.2.1, (hbn.cell (p := ⟨g6, 0, none⟩) hg_1).trans hS.2.2.1, (hbn.cell (p := ⟨g6, 1, none⟩) hg_1).trans hS.2.2.2.1, (hbn.cell (p := ⟨g7, 0, none⟩) hg_2).trans hS.2.2.2.2.1, (hbn.cell (p := ⟨g7, 1, none⟩) hg_2).trans hS.2.2.2.2.2.1, (hbn.cell (p := ⟨g8, 0, none⟩) hg_3).trans hS.2.2.2.2.2.2.1, (hbn.cell (p := ⟨g8, 1, none⟩) hg_3).trans hS.2.2.2.2.2.2.2.1, (hbn.cell (p := ⟨g9, 0, none⟩) hg_4).trans hS.2.2.2.2.2.2.2.2.1, (hbn.cell (p := ⟨g9, 1, none⟩) hg_4).trans hS.2.2.2.2.2.2.2.2.2⟩
            have hgn_0 := Nat.lt_of_lt_of_le hg_0 hbn.size
            have hgn_1 := Nat.lt_of_lt_of_le hg_1 hbn.size
            have hgn_2 := Nat.lt_of_lt_of_le hg_2 hbn.size
            have hgn_3 := Nat.lt_of_lt_of_le hg_3 hbn.size
            have hgn_4 := Nat.lt_of_lt_of_le hg_4 hbn.size
            refine hK.out _ _ hSn ?_
            clear hK K hS HBc hg_0 hg_1 hg_2 hg_3 hg_4
            try simp only [List.getElem_toArray, List.getElem_cons_succ, List.getElem_cons_zero, Act.put, List.setIfInBounds_toArray, List.set_cons_zero, List.set_cons_succ]
            have hS := hSn
            have HBc := HBn
            have hg_0 := hgn_0
            have hg_1 := hgn_1
            have hg_2 := hgn_2
            have hg_3 := hgn_3
            have hg_4 := hgn_4
            clear hSn HBn hbn hgn_0 hgn_1 hgn_2 hgn_3 hgn_4
            obtain ⟨wc, rfl⟩ : ∃ x : World, x = wn := ⟨_, rfl⟩
            refine HT.one (i := 12) (o := _) rfl (by kernel_rfl) (by decide) (by rfl) ?_
            intro K hK
            go_simp
            refine (IMUL_any ngX ngX AX AX nX cX nX cX _ _ (by omega) (by omega) _ wc.heap.size (Nat.le_refl _) HX HX).mono ?_
            rintro e wn ⟨ng5, A5, n5, c5, rfl, hH5, k5, hbn⟩
            have H5 := Lib.hid hH5
            clear hH5
            clear HX
            replace HA := Lib.hid ((hbn.block g14 (blk_lt HA.out)).trans HA.out)
            replace H3 := Lib.hid (H3.out.to hbn (Nat.le_refl _) hbn.size)
            replace H4 := Lib.hid (H4.out.to hbn (Nat.le_refl _) hbn.size)
            have HBn := Lib.hid (HBc.out.trans (hbn.mono HBc.out.size))
            have hSn : wn.cell? ⟨g5, 0, none⟩ = some (.bool ngN) ∧ wn.cell? ⟨g5, 1, none⟩ = some (.slice AN nN cN) ∧ wn.cell? ⟨g6, 0, none⟩ = some (.bool ngX) ∧ wn.cell? ⟨g6, 1, none⟩ = some (.slice AX nX cX) ∧ wn.cell? ⟨g7, 0, none⟩ = some (.bool ngY) ∧ wn.cell? ⟨g7, 1, none⟩ = some (.slice AY nY cY) ∧ wn.cell? ⟨g8, 0, none⟩ = some (.bool ngP) ∧ wn.cell? ⟨g8, 1, none⟩ = some (.slice AP nP cP) ∧ wn.cell? ⟨g9, 0, none⟩ = some (.bool ngQ) ∧ wn.cell? ⟨g9, 1, none⟩ = some (.slice AQ nQ cQ) := ⟨(hbn.cell (p := ⟨g5, 0, none⟩) hg_0).trans hS.1, (hbn.cell (p := ⟨g5, 1, none⟩) hg_0).trans hS.2.1, (hbn.cell (p := ⟨g6, 0, none⟩) hg_1).trans hS.2.2.1, (hbn.cell (p := ⟨g6, 1, none⟩) hg_1).trans hS.2.2.2.1, (hbn.cell (p := ⟨g7, 0, none⟩) hg_2).trans hS.2.2.2.2.1, (hbn.cell (p := ⟨g7, 1, none⟩) hg_2).trans hS.2.2.2.2.2.1, (hbn.cell (p := ⟨g8, 0, none⟩) hg_3).trans hS.2.2.2.2.2.2.1, (hbn.cell (p := ⟨g8, 1, none⟩) hg_3).trans hS.2.2.2.2.2.2.2.1, (hbn.cell (p := ⟨g9, 0, none⟩) hg_4).trans hS.2.2.2.2.2.2.2.2.1, (hbn.cell (p := ⟨g9, 1, none⟩) hg_4).trans hS.2.2.2.2.2.2.2.2.2⟩
            have hgn_0 := Nat.lt_of_lt_of_le hg_0 hbn.size
            have hgn_1 := Nat.lt_of_lt_of_le hg_1 hbn.size
            have hgn_2 := Nat.lt_of_lt_of_le hg_2 hbn.size
            have hgn_3 := Nat.lt_of_lt_of_le hg_3 hbn.size
            have hgn_4 := Nat.lt_of_lt_of_le hg_4 hbn.size
            refine hK.out _ _ hSn ?_
            clear hK K hS HBc hg_0 hg_1 hg_2 hg_3 hg_4
            try simp only [List.getElem_toArray, List.getElem_cons_succ, List.getElem_cons_zero, Act.put, List.setIfInBounds_toArray, List.set_cons_zero, List.set_cons_succ]
            have hS := hSn
            have HBc := HBn
            have hg_0 := hgn_0
            have hg_1 := hgn_1
            have hg_2 := hgn_2
            have hg_3 := hgn_3
            have hg_4 := hgn_4
            clear hSn HBn hbn hgn_0 hgn_1 hgn_2 hgn_3 hgn_4
            obtain ⟨wc, rfl⟩ : ∃ x : World, x = wn := ⟨_, rfl⟩
            refine HT.one (i := 13) (o := _) rfl (by kernel_rfl) (by decide) (by rfl) ?_
            intro K hK
            go_simp
            refine (ISUB_any ng4 ng5 A4 A5 n4 c4 n5 c5 _ _ (by omega) (by omega) _ wc.heap.size (Nat.le_refl _) H4 H5).mono ?_
            rintro e wn ⟨ng6, A6, n6, c6, rfl, hH6, k6, hbn⟩
            have H6 := Lib.hid hH6
            clear hH6
            clear H4 H5
            replace HA := Lib.hid ((hbn.block g14 (blk_lt HA.out)).trans HA.out)
            replace H3 := Lib.hid (H3.out.to hbn (Nat.le_refl _) hbn.size)
            have HBn := Lib.hid (HBc.out.trans (hbn.mono HBc.out.size))
            have hSn : wn.cell? ⟨g5, 0, none⟩ = some (.bool ngN) ∧ wn.cell? ⟨g5, 1, none⟩ = some (.slice AN nN cN) ∧ wn.cell? ⟨g6, 0, none⟩ = some (.bool ngX) ∧ wn.cell? ⟨g6, 1, none⟩ = some (.slice AX nX cX) ∧ wn.cell? ⟨g7, 0, none⟩ = some (.bool ngY) ∧ wn.cell? ⟨g7, 1, none⟩ = some (.slice AY nY cY) ∧ wn.cell? ⟨g8, 0, none⟩ = some (.bool ngP) ∧ wn.cell? ⟨g8, 1, none⟩ = some (.slice AP nP cP) ∧ wn.cell? ⟨g9, 0, none⟩ = some (.bool ngQ) ∧ wn.cell? ⟨g9, 1, none⟩ = some (.slice AQ nQ cQ) := ⟨(hbn.cell (p := ⟨g5, 0, none⟩) hg_0).trans hS.1, (hbn.cell (p := ⟨g5, 1, none⟩) hg_0).trans hS.2.1, (hbn.cell (p := ⟨g6, 0, none⟩) hg_1).trans hS.2.2.1, (hbn.cell (p := ⟨g6, 1, none⟩) hg_1).trans hS.2.2.2.1, (hbn.cell (p := ⟨g7, 0, none⟩) hg_2).trans hS.2.2.2.2.1, (hbn.cell (p := ⟨g7, 1, none⟩) hg_2).trans hS.2.2.2.2.2.1, (hbn.cell (p := ⟨g8, 0, none⟩) hg_3).trans hS.2.2.2.2.2.2.1, (hbn.cell (p := ⟨g8, 1, none⟩) hg_3).trans hS.2.2.2.2.2.2.2.1, (hbn.cell (p := ⟨g9, 0, none⟩) hg_4).trans hS.2.2.2.2.2.2.2.2.1, (hbn.cell (p := ⟨g9, 1, none⟩) hg_4).trans hS.2.2.2.2.2.2.2.2.2⟩
            have hgn_0 := Nat.lt_of_lt_of_le hg_0 hbn.size
            have hgn_1 := Nat.lt_of_lt_of_le hg_1 hbn.size
            have hgn_2 := Nat.lt_of_lt_of_le hg_2 hbn.size
            have hgn_3 := Nat.lt_of_lt_of_le hg_3 hbn.size
            have hgn_4 := Nat.lt_of_lt_of_le hg_4 hbn.size
            refine hK.out _ _ hSn ?_
            clear hK K hS HBc hg_0 hg_1 hg_2 hg_3 hg_4
            try simp only [List.getElem_toArray, List.getElem_cons_succ, List.getElem_cons_zero, Act.put, List.setIfInBounds_toArray, List.set_cons_zero, List.set_cons_succ]
            have hS := hSn
            have HBc := HBn
            have hg_0 := hgn_0
            have hg_1 := hgn_1
            have hg_2 := hgn_2
            have hg_3 := hgn_3
            have hg_4 := hgn_4
            clear hSn HBn hbn hgn_0 hgn_1 hgn_2 hgn_3 hgn_4
            obtain ⟨wc, rfl⟩ : ∃ x : World, x = wn := ⟨_, rfl⟩
            refine HT.take (i := 14) (oi := _) (v := .slice A6 n6 c6) rfl (by kernel_rfl) (by kernel_rfl) (by decide) (fun _ _ _ h => h) (Or.inl ⟨by rfl, ?_⟩) hS ?_
            · intro wz
              first | exact (run_field_i1 ng6 A6 n6 c6 wz) | (go_simp; done) | (go_simp; exact (run_field_i1 ng6 A6 n6 c6 wz)) | (go_simp; simp only [(run_field_i1 ng6 A6 n6 c6 wz)]; rfl) | (go_simp; simp only [(run_field_i1 ng6 A6 n6 c6 wz)])
            simp only [List.getElem_toArray, List.getElem_cons_succ, List.getElem_cons_zero, Act.put, List.setIfInBounds_toArray, List.set_cons_zero, List.set_cons_succ]
            refine HT.one (i := 15) (o := _) rfl (by kernel_rfl) (by decide) (by rfl) ?_
            intro K hK
            go_simp
            refine (QOVER_any ng3 A3 A6 n3 c3 n6 c6 _ _ (by omega) (by omega) HDP.out _ wc.heap.size (Nat.le_refl _) H3 (Lib.hid H6.out.2)).mono ?_
            rintro e wn ⟨ng7, A7, n7, c7, D7, d7, e7, rfl, hR7, k7, m7, hbn⟩
            obtain ⟨hH7, hG7⟩ := hR7
            have H7 := Lib.hid hH7
            clear hH7
            have G7 := Lib.hid hG7
            clear hG7
            clear H3 H6
            replace HA := Lib.hid ((hbn.block g14 (blk_lt HA.out)).trans HA.out)
            have HBn := Lib.hid (HBc.out.trans (hbn.mono HBc.out.size))
            have hSn : wn.cell? ⟨g5, 0, none⟩ = some (.bool ngN) ∧ wn.cell? ⟨g5, 1, none⟩ = some (.slice AN nN cN) ∧ wn.cell? ⟨g6, 0, none⟩ = some (.bool ngX) ∧ wn.cell? ⟨g6, 1, none⟩ = some (.slice AX nX cX) ∧ wn.cell? ⟨g7, 0, none⟩ = some (.bool ngY) ∧ wn.cell? ⟨g7, 1, none⟩ = some (.slice AY nY cY) ∧ wn.cell? ⟨g8, 0, none⟩ = some (.bool ngP) ∧ wn.cell? ⟨g8, 1, none⟩ = some (.slice AP nP cP) ∧ wn.cell? ⟨g9, 0, none⟩ = some (.bool ngQ) ∧ wn.cell? ⟨g9, 1, none⟩ = some (.slice AQ nQ cQ) := ⟨(hbn.cell (p := ⟨g5, 0, none⟩) hg_0).trans hS.1, (hbn.cell (p := ⟨g5, 1, none⟩) hg_0).trans hS.2.1, (hbn.cell (p := ⟨g6, 0, none⟩) hg_1).trans hS.2.2.1, (hbn.cell (p := ⟨g6, 1, none⟩) hg_1).trans hS.2.2.2.1, (hbn.cell (p := ⟨g7, 0, none⟩) hg_2).trans hS.2.2.2.2.1, (hbn.cell (p := ⟨g7, 1, none⟩) hg_2).trans hS.2.2.2.2.2.1, (hbn.cell (p := ⟨g8, 0, none⟩) hg_3).trans hS.2.2.2.2.2.2.1, (hbn.cell (p := ⟨g8, 1, none⟩) hg_3).trans hS.2.2.2.2.2.2.2.1, (hbn.cell (p := ⟨g9, 0, none⟩) hg_4).trans hS.2.2.2.2.2.2.2.2.1, (hbn.cell (p := ⟨g9, 1, none⟩) hg_4).trans hS.2.2.2.2.2.2.2.2.2⟩
            have hgn_0 := Nat.lt_of_lt_of_le hg_0 hbn.size
            have hgn_1 := Nat.lt_of_lt_of_le hg_1 hbn.size
            have hgn_2 := Nat.lt_of_lt_of_le hg_2 hbn.size
            have hgn_3 := Nat.lt_of_lt_of_le hg_3 hbn.size
            have hgn_4 := Nat.lt_of_lt_of_le hg_4 hbn.size
            refine hK.out _ _ hSn ?_
            clear hK K hS HBc hg_0 hg_1 hg_2 hg_3 hg_4
            try simp only [List.getElem_toArray, List.getElem_cons_succ, List.getElem_cons_zero, Act.put, List.setIfInBounds_toArray, List.set_cons_zero, List.set_cons_succ]
            have hS := hSn
            have HBc := HBn
            have hg_0 := hgn_0
            have hg_1 := hgn_1
            have hg_2 := hgn_2
            have hg_3 := hgn_3
            have hg_4 := hgn_4
            clear hSn HBn hbn hgn_0 hgn_1 hgn_2 hgn_3 hgn_4
            obtain ⟨wc, rfl⟩ : ∃ x : World, x = wn := ⟨_, rfl⟩
            obtain ⟨r0, r1, r2, f0, f1, f2⟩ := three_cells HA.out
            refine HT.done (by kernel_rfl) ?_
            clear hS
            simp only [List.drop_succ_cons, List.drop_zero]
            have HQB := Lib.hid (QBox.store (k := 2 * n + 11) (m := 2 * n + 11) HA.out ⟨H7.out, G7.out⟩ (by omega) (by omega))
            have HBS := Lib.hid (box3_below (v0 := .bool ng7) (v1 := .slice A7 n7 c7) (v2 := .slice D7 d7 e7) HBc.out HGg14.out)
            go_wp2_with fail
            go_meet
            exact ⟨g14, rfl, HQB, HBS⟩
            -- H7 G7 HA
        · intro K hK
          go_simp
          obtain ⟨wn, g14, hwn, hga9, hHA, hbn0, _⟩ := cell_new0 wc 42 #[.bool false, .slice none 0 0, .slice none 0 0]
          have hbn := hbn0.out
          have HGg14 : Hid (W.heap.size ≤ g14) := by show _ ≤ _; rw [hga9]; exact HBc.out.size
          rw [← hwn, ← hga9]
          have HA := hHA
          clear hwn hga9 hbn0 hHA
          replace HN := Lib.hid (HN.out.to hbn (Nat.le_refl _) hbn.size)
          replace HX := Lib.hid (HX.out.to hbn (Nat.le_refl _) hbn.size)
          replace HY := Lib.hid (HY.out.to hbn (Nat.le_refl _) hbn.size)
          replace HP := Lib.hid (HP.out.to hbn (Nat.le_refl _) hbn.size)
          replace H1 := Lib.hid (H1.out.to hbn (Nat.le_refl _) hbn.size)
          have HBn := Lib.hid (HBc.out.trans (hbn.mono HBc.out.size))
          have hSn : wn.cell? ⟨g5, 0, none⟩ = some (.bool ngN) ∧ wn.cell? ⟨g5, 1, none⟩ = some (.slice AN nN cN) ∧ wn.cell? ⟨g6, 0, none⟩ = some (.bool ngX) ∧ wn.cell? ⟨g6, 1, none⟩ = some (.slice AX nX cX) ∧ wn.cell? ⟨g7, 0, none⟩ = some (.bool ngY) ∧ wn.cell? ⟨g7, 1, none⟩ = some (.slice AY nY cY) ∧ wn.cell? ⟨g8, 0, none⟩ = some (.bool ngP) ∧ wn.cell? ⟨g8, 1, none⟩ = some (.slice AP nP cP) ∧ wn.cell? ⟨g9, 0, none⟩ = some (.bool ngQ) ∧ wn.cell? ⟨g9, 1, none⟩ = some (.slice AQ nQ cQ) := ⟨(hbn.cell (p := ⟨g5, 0, none⟩) hg_0).trans hS.1, (hbn.cell (p := ⟨g5, 1, none⟩) hg_0).trans hS.2.1, (hbn.cell (p := ⟨g6, 0, none⟩) hg_1).trans hS.2.2.1, (hbn.cell (p := ⟨g6, 1, none⟩) hg_1).trans hS.2.2.2.1, (hbn.cell (p := ⟨g7, 0, none⟩) hg_2).trans hS.2.2.2.2.1, (hbn.cell (p := ⟨g7, 1, none⟩) hg_2).trans hS.2.2.2.2.2.1, (hbn.cell (p := ⟨g8, 0, none⟩) hg_3).trans hS.2.2.2.2.2.2.1, (hbn.cell (p := ⟨g8, 1, none⟩) hg_3).trans hS.2.2.2.2.2.2.2.1, (hbn.cell (p := ⟨g9, 0, none⟩) hg_4).trans hS.2.2.2.2.2.2.2.2.1, (hbn.cell (p := ⟨g9, 1, none⟩) hg_4).trans hS.2.2.2.2.2.2.2.2.2⟩
          have hgn_0 := Nat.lt_of_lt_of_le hg_0 hbn.size
          have hgn_1 := Nat.lt_of_lt_of_le hg_1 hbn.size
          have hgn_2 := Nat.lt_of_lt_of_le hg_2 hbn.size
          have hgn_3 := Nat.lt_of_lt_of_le hg_3 hbn.size
          have hgn_4 := Nat.lt_of_lt_of_le hg_4 hbn.size
          refine hK.out _ _ hSn ?_
          clear hK K hS HBc hg_0 hg_1 hg_2 hg_3 hg_4
          try simp only [List.getElem_toArray, List.getElem_cons_succ, List.getElem_cons_zero, Act.put, List.setIfInBounds_toArray, List.set_cons_zero, List.set_cons_succ]
          have hS := hSn
          have HBc := HBn
          have hg_0 := hgn_0
          have hg_1 := hgn_1
          have hg_2 := hgn_2
          have hg_3 := hgn_3
          have hg_4 := hgn_4
          clear hSn HBn hbn hgn_0 hgn_1 hgn_2 hgn_3 hgn_4
          obtain ⟨wc, rfl⟩ : ∃ x : World, x = wn := ⟨_, rfl⟩
          refine HT.one (i := 5) (o := _) rfl (by kernel_rfl) (by decide) (by rfl) ?_
          intro K hK
          go_simp
          refine (IMUL_any ngX ngY AX AY nX cX nY cY _ _ (by omega) (by omega) _ wc.heap.size (Nat.le_refl _) HX HY).mono ?_
          rintro e wn ⟨ng2, A2, n2, c2, rfl, hH2, k2, hbn⟩
          have H2 := Lib.hid hH2
          clear hH2
          clear HY
          replace HN := Lib.hid (HN.out.to hbn (Nat.le_refl _) hbn.size)
          replace HX := Lib.hid (HX.out.to hbn (Nat.le_refl _) hbn.size)
          replace HP := Lib.hid (HP.out.to hbn (Nat.le_refl _) hbn.size)
          replace H1 := Lib.hid (H1.out.to hbn (Nat.le_refl _) hbn.size)
          replace HA := Lib.hid ((hbn.block g14 (blk_lt HA.out)).trans HA.out)
          have HBn := Lib.hid (HBc.out.trans (hbn.mono HBc.out.size))
          have hSn : wn.cell? ⟨g5, 0, none⟩ = some (.bool ngN) ∧ wn.cell? ⟨g5, 1, none⟩ = some (.slice AN nN cN) ∧ wn.cell? ⟨g6, 0, none⟩ = some (.bool ngX) ∧ wn.cell? ⟨g6, 1, none⟩ = some (.slice AX nX cX) ∧ wn.cell? ⟨g7, 0, none⟩ = some (.bool ngY) ∧ wn.cell? ⟨g7, 1, none⟩ = some (.slice AY nY cY) ∧ wn.cell? ⟨g8, 0, none⟩ = some (.bool ngP) ∧ wn.cell? ⟨g8, 1, none⟩ = some (.slice AP nP cP) ∧ wn.cell? ⟨g9, 0, none⟩ = some (.bool ngQ) ∧ wn.cell? ⟨g9, 1, none⟩ = some (.slice AQ nQ cQ) := ⟨(hbn.cell (p := ⟨g5, 0, none⟩) hg_0).trans hS.1, (hbn.cell (p := ⟨g5, 1, none⟩) hg_0).trans hS.2.1, (hbn.cell (p := ⟨g6, 0, none⟩) hg_1).trans hS.2.2.1, (hbn.cell (p := ⟨g6, 1, none⟩) hg_1).trans hS.2.2.2.1, (hbn.cell (p := ⟨g7, 0, none⟩) hg_2).trans hS.2.2.2.2.1, (hbn.cell (p := ⟨g7, 1, none⟩) hg_2).trans hS.2.2.2.2.2.1, (hbn.cell (p := ⟨g8, 0, none⟩) hg_3).trans hS.2.2.2.2.2.2.1, (hbn.cell (p := ⟨g8, 1, none⟩) hg_3).trans hS.2.2.2.2.2.2.2.1, (hbn.cell (p := ⟨g9, 0, none⟩) hg_4).trans hS.2.2.2.2.2.2.2.2.1, (hbn.cell (p := ⟨g9, 1, none⟩) hg_4).trans hS.2.2.2.2.2.2.2.2.2⟩
          have hgn_0 := Nat.lt_of_lt_of_le hg_0 hbn.size
          have hgn_1 := Nat.lt_of_lt_of_le hg_1 hbn.size
          have hgn_2 := Nat.lt_of_lt_of_le hg_2 hbn.size
          have hgn_3 := Nat.lt_of_lt_of_le hg_3 hbn.size
          have hgn_4 := Nat.lt_of_lt_of_le hg_4 hbn.size
          refine hK.out _ _ hSn ?_
          clear hK K hS HBc hg_0 hg_1 hg_2 hg_3 hg_4
          try simp only [List.getElem_toArray, List.getElem_cons_succ, List.getElem_cons_zero, Act.put, List.setIfInBounds_toArray, List.set_cons_zero, List.set_cons_succ]
          have hS := hSn
          have HBc := HBn
          have hg_0 := hgn_0
          have hg_1 := hgn_1
          have hg_2 := hgn_2
          have hg_3 := hgn_3
          have hg_4 := hgn_4
          clear hSn HBn hbn hgn_0 hgn_1 hgn_2 hgn_3 hgn_4
          obtain ⟨wc, rfl⟩ : ∃ x : World, x = wn := ⟨_, rfl⟩
          refine HT.one (i := 6) (o := _) rfl (by kernel_rfl) (by decide) (by rfl) ?_
          intro K hK
          go_simp
          refine (ISUB_any ng1 ng2 A1 A2 n1 c1 n2 c2 _ _ (by omega) (by omega) _ wc.heap.size (Nat.le_refl _) H1 H2).mono ?_
          rintro e wn ⟨ng3, A3, n3, c3, rfl, hH3, k3, hbn⟩
          have H3 := Lib.hid hH3
          clear hH3
          clear H1 H2
          replace HN := Lib.hid (HN.out.to hbn (Nat.le_refl _) hbn.size)
          replace HX := Lib.hid (HX.out.to hbn (Nat.le_refl _) hbn.size)
          replace HP := Lib.hid (HP.out.to hbn (Nat.le_refl _) hbn.size)
          replace HA := Lib.hid ((hbn.block g14 (blk_lt HA.out)).trans HA.out)
          have HBn := Lib.hid (HBc.out.trans (hbn.mono HBc.out.size))
          have hSn : wn.cell? ⟨g5, 0, none⟩ = some (.bool ngN) ∧ wn.cell? ⟨g5, 1, none⟩ = some (.slice AN nN cN) ∧ wn.cell? ⟨g6, 0, none⟩ = some (.bool ngX) ∧ wn.cell? ⟨g6, 1, none⟩ = some (.slice AX nX cX) ∧ wn.cell? ⟨g7, 0, none⟩ = some (.bool ngY) ∧ wn.cell? ⟨g7, 1, none⟩ = some (.slice AY nY cY) ∧ wn.cell? ⟨g8, 0, none⟩ = some (.bool ngP) ∧ wn.cell? ⟨g8, 1, none⟩ = some (.slice AP nP cP) ∧ wn.cell? ⟨g9, 0, none⟩ = some (.bool ngQ) ∧ wn.cell? ⟨g9, 1, none⟩ = some (.slice AQ nQ cQ) := ⟨(hbn.cell (p := ⟨g5, 0, none⟩) hg_0).trans hS.1, (hbn.cell (p := ⟨g5, 1, none⟩) hg_0).trans hS.2.1, (hbn.cell (p := ⟨g6, 0, none⟩) hg_1).trans hS.2.2.1, (hbn.cell (p := ⟨g6, 1, none⟩) hg_1).trans hS.2.2.2.1, (hbn.cell (p := ⟨g7, 0, none⟩) hg_2).trans hS.2.2.2.2.1, (hbn.cell (p := ⟨g7, 1, none⟩) hg_2).trans hS.2.2.2.2.2.1, (hbn.cell (p := ⟨g8, 0, none⟩) hg_3).trans hS.2.2.2.2.2.2.1, (hbn.cell (p := ⟨g8, 1, none⟩) hg_3).trans hS.2.2.2.2.2.2.2.1, (hbn.cell (p := ⟨g9, 0, none⟩) hg_4).trans hS.2.2.2.2.2.2.2.2.1, (hbn.cell (p := ⟨g9, 1, none⟩) hg_4).trans hS.2.2.2.2.2.2.2.2.2⟩
          have hgn_0 := Nat.lt_of_lt_of_le hg_0 hbn.size
          have hgn_1 := Nat.lt_of_lt_of_le hg_1 hbn.size
          have hgn_2 := Nat.lt_of_lt_of_le hg_2 hbn.size
          have hgn_3 := Nat.lt_of_lt_of_le hg_3 hbn.size
          have hgn_4 := Nat.lt_of_lt_of_le hg_4 hbn.size
          refine hK.out _ _ hSn ?_
          clear hK K hS HBc hg_0 hg_1 hg_2 hg_3 hg_4
          try simp only [List.getElem_toArray, List.getElem_cons_succ, List.getElem_cons_zero, Act.put, List.setIfInBounds_toArray, List.set_cons_zero, List.set_cons_succ]
          have hS := hSn
          have HBc := HBn
          have hg_0 := hgn_0
          have hg_1 := hgn_1
          have hg_2 := hgn_2
          have hg_3 := hgn_3
          have hg_4 := hgn_4
          clear hSn HBn hbn hgn_0 hgn_1 hgn_2 hgn_3 hgn_4
          obtain ⟨wc, rfl⟩ : ∃ x : World, x = wn := ⟨_, rfl⟩
          refine HT.one (i := 9) (o := _) rfl (by kernel_rfl) (by decide) (by rfl) ?_
          intro K hK
          go_simp
          refine (IMUL_any ngN ngP AN AP nN cN nP cP _ _ (by omega) (by omega) _ wc.heap.size (Nat.le_refl _) HN HP).mono ?_
          rintro e wn ⟨ng4, A4, n4, c4, rfl, hH4, k4, hbn⟩
          have H4 := Lib.hid hH4
          clear hH4
          clear HN HP
          replace HX := Lib.hid (HX.out.to hbn (Nat.le_refl _) hbn.size)
          replace HA := Lib.hid ((hbn.block g14 (blk_lt HA.out)).trans HA.out)
          replace H3 := Lib.hid (H3.out.to hbn (Nat.le_refl _) hbn.size)
          have HBn := Lib.hid (HBc.out.trans (hbn.mono HBc.out.size))
          have hSn : wn.cell? ⟨g5, 0, none⟩ = some (.bool ngN) ∧ wn.cell? ⟨g5, 1, none⟩ = some (.slice AN nN cN) ∧ wn.cell? ⟨g6, 0, none⟩ = some (.bool ngX) ∧ wn.cell? ⟨g6, 1, none⟩ = some (.slice AX nX cX) ∧ wn.cell? ⟨g7, 0, none⟩ = some (.bool ngY) ∧ wn.cell? ⟨g7, 1, none⟩ = some (.slice AY nY cY) ∧ wn.cell? ⟨g8, 0, none⟩ = some (.bool ngP) ∧ wn.cell? ⟨g8, 1, none⟩ = some (.slice AP nP cP) ∧ wn.cell? ⟨g9, 0, none⟩ = some (.bool ngQ) ∧ wn.cell? ⟨g9, 1, none⟩ = some (.slice AQ nQ cQ) := ⟨(hbn.cell (p := ⟨g5, 0, none⟩) hg_0).trans hS.1, (hbn.cell (p := ⟨g5, 1, none⟩) hg_0).trans hS.2.1, (hbn.cell (p := ⟨g6, 0, none⟩) hg_1).trans hS.2.2.1, (hbn.cell (p := ⟨g6, 1, none⟩) hg_1).trans hS.2.2.2.1, (hbn.cell (p := ⟨g7, 0, none⟩) hg_2).trans hS.2.2.2.2.1, (hbn.cell (p := ⟨g7, 1, none⟩) hg_2).trans hS.2.2.2.2.2.1, (hbn.cell (p := ⟨g8, 0, none⟩) hg_3).trans hS.2.2.2.2.2.2.1, (hbn.cell (p := ⟨g8, 1, none⟩) hg_3).trans hS.2.2.2.2.2.2.2.1, (hbn.cell (p := ⟨g9, 0, none⟩) hg_4).trans hS.2.2.2.2.2.2.2.2.1, (hbn.cell (p := ⟨g9, 1, none⟩) hg_4).trans hS.2.2.2.2.2.2.2.2.2⟩
          have hgn_0 := Nat.lt_of_lt_of_le hg_0 hbn.size
          have hgn_1 := Nat.lt_of_lt_of_le hg_1 hbn.size
          have hgn_2 := Nat.lt_of_lt_of_le hg_2 hbn.size
          have hgn_3 := Nat.lt_of_lt_of_le hg_3 hbn.size
          have hgn_4 := Nat.lt_of_lt_of_le hg_4 hbn.size
          refine hK.out _ _ hSn ?_
          clear hK K hS HBc hg_0 hg_1 hg_2 hg_3 hg_4
          try simp only [List.getElem_toArray, List.getElem_cons_succ, List.getElem_cons_zero, Act.put, List.setIfInBounds_toArray, List.set_cons_zero, List.set_cons_succ]
          have hS := hSn
          have HBc := HBn
          have hg_0 := hgn_0
          have hg_1 := hgn_1
          have hg_2 := hgn_2
          have hg_3 := hgn_3
          have hg_4 := hgn_4
          clear hSn HBn hbn hgn_0 hgn_1 hgn_2 hgn_3 hgn_4
          obtain ⟨wc, rfl⟩ : ∃ x : World, x = wn := ⟨_, rfl⟩
          refine HT.one (i := 12) (o := _) rfl (by kernel_rfl) (by decide) (by rfl) ?_
          intro K hK
          go_simp
          refine (IMUL_any ngX ngX AX AX nX cX nX cX _ _ (by omega) (by omega) _ wc.heap.size (Nat.le_refl _) HX HX).mono ?_
          rintro e wn ⟨ng5, A5, n5, c5, rfl, hH5, k5, hbn⟩
          have H5 := Lib.hid hH5
          clear hH5
          clear HX
          replace HA := Lib.hid ((hbn.block g14 (blk_lt HA.out)).trans HA.out)
          replace H3 := Lib.hid (H3.out.to hbn (Nat.le_refl _) hbn.size)
          replace H4 := Lib.hid (H4.out.to hbn (Nat.le_refl _) hbn.size)
          have HBn := Lib.hid (HBc.out.trans (hbn.mono HBc.out.size))
          have hSn : wn.cell? ⟨g5, 0, none⟩ = some (.bool ngN) ∧ wn.cell? ⟨g5, 1, none⟩ = some (.slice AN nN cN) ∧ wn.cell? ⟨g6, 0, none⟩ = some (.bool ngX) ∧ wn.cell? ⟨g6, 1, none⟩ = some (.slice AX nX cX) ∧ wn.cell? ⟨g7, 0, none⟩ = some (.bool ngY) ∧ wn.cell? ⟨g7, 1, none⟩ = some (.slice AY nY cY) ∧ wn.cell? ⟨g8, 0, none⟩ = some (.bool ngP) ∧ wn.cell? ⟨g8, 1, none⟩ = some (.slice AP nP cP) ∧ wn.cell? ⟨g9, 0, none⟩ = some (.bool ngQ) ∧ wn.cell? ⟨g9, 1, none⟩ = some (.slice AQ nQ cQ) := ⟨(hbn.cell (p := ⟨g5, 0, none⟩) hg_0).trans hS.1, (hbn.cell (p := ⟨g5, 1, none⟩) hg_0).trans hS.2.1, (hbn.cell (p := ⟨g6, 0, none⟩) hg_1).trans hS.2.2.1, (hbn.cell (p := ⟨g6, 1, none⟩) hg_1).trans hS.2.2.2.1, (hbn.cell (p := ⟨g7, 0, none⟩) hg_2).trans hS.2.2.2.2.1, (hbn.cell (p := ⟨g7, 1, none⟩) hg_2).trans hS.2.2.2.2.2.1, (hbn.cell (p := ⟨g8, 0, none⟩) hg_3).trans hS.2.2.2.2.2.2.1, (hbn.cell (p := ⟨g8, 1, none⟩) hg_3).trans hS.2.2.2.2.2.2.2.1, (hbn.cell (p := ⟨g9, 0, none⟩) hg_4).trans hS.2.2.2.2.2.2.2.2.1, (hbn.cell (p := ⟨g9, 1, none⟩) hg_4).trans hS.2.2.2.2.2.2.2.2.2⟩
          have hgn_0 := Nat.lt_of_lt_of_le hg_0 hbn.size
          have hgn_1 := Nat.lt_of_lt_of_le hg_1 hbn.size
          have hgn_2 := Nat.lt_of_lt_of_le hg_2 hbn.size
          have hgn_3 := Nat.lt_of_lt_of_le hg_3 hbn.size
          have hgn_4 := Nat.lt_of_lt_of_le hg_4 hbn.size
          refine hK.out _ _ hSn ?_
          clear hK K hS HBc hg_0 hg_1 hg_2 hg_3 hg_4
          try simp only [List.getElem_toArray, List.getElem_cons_succ, List.getElem_cons_zero, Act.put, List.setIfInBounds_toArray, List.set_cons_zero, List.set_cons_succ]
          have hS := hSn
          have HBc := HBn
          have hg_0 := hgn_0
          have hg_1 := hgn_1
          have hg_2 := hgn_2
          have hg_3 := hgn_3
          have hg_4 := hgn_4
          clear hSn HBn hbn hgn_0 hgn_1 hgn_2 hgn_3 hgn_4
          obtain ⟨wc, rfl⟩ : ∃ x : World, x = wn := ⟨_, rfl⟩
          refine HT.one (i := 13) (o := _) rfl (by kernel_rfl) (by decide) (by rfl) ?_
          intro K hK
          go_simp
          refine (ISUB_any ng4 ng5 A4 A5 n4 c4 n5 c5 _ _ (by omega) (by omega) _ wc.heap.size (Nat.le_refl _) H4 H5).mono ?_
          rintro e wn ⟨ng6, A6, n6, c6, rfl, hH6, k6, hbn⟩
          have H6 := Lib.hid hH6
          clear hH6
          clear H4 H5
          replace HA := Lib.hid ((hbn.block g14 (blk_lt HA.out)).trans HA.out)
          replace H3 := Lib.hid (H3.out.to hbn (Nat.le_refl _) hbn.size)
          have HBn := Lib.hid (HBc.out.trans (hbn.mono HBc.out.size))
          have hSn : wn.cell? ⟨g5, 0, none⟩ = some (.bool ngN) ∧ wn.cell? ⟨g5, 1, none⟩ = some (.slice AN nN cN) ∧ wn.cell? ⟨g6, 0, none⟩ = some (.bool ngX) ∧ wn.cell? ⟨g6, 1, none⟩ = some (.slice AX nX cX) ∧ wn.cell? ⟨g7, 0, none⟩ = some (.bool ngY) ∧ wn.cell? ⟨g7, 1, none⟩ = some (.slice AY nY cY) ∧ wn.cell? ⟨g8, 0, none⟩ = some (.bool ngP) ∧ wn.cell? ⟨g8, 1, none⟩ = some (.slice AP nP cP) ∧ wn.cell? ⟨g9, 0, none⟩ = some (.bool ngQ) ∧ wn.cell? ⟨g9, 1, none⟩ = some (.slice AQ nQ cQ) := ⟨(hbn.cell (p := ⟨g5, 0, none⟩) hg_0).trans hS.1, (hbn.cell (p := ⟨g5, 1, none⟩) hg_0).trans hS.2.1, (hbn.cell (p := ⟨g6, 0, none⟩) hg_1).trans hS.2.2.1, (hbn.cell (p := ⟨g6, 1, none⟩) hg_1).trans hS.2.2.2.1, (hbn.cell (p := ⟨g7, 0, none⟩) hg_2).trans hS.2.2.2.2.1, (hbn.cell (p := ⟨g7, 1, none⟩) hg_2).trans hS.2.2.2.2.2.1, (hbn.cell (p := ⟨g8, 0, none⟩) hg_3).trans hS.2.2.2.2.2.2.1, (hbn.cell (p := ⟨g8, 1, none⟩) hg_3).trans hS.2.2.2.2.2.2.2.1, (hbn.cell (p := ⟨g9, 0, none⟩) hg_4).trans hS.2.2.2.2.2.2.2.2.1, (hbn.cell (p := ⟨g9, 1, none⟩) hg_4).trans hS.2.2.2.2.2.2.2.2.2⟩
          have hgn_0 := Nat.lt_of_lt_of_le hg_0 hbn.size
          have hgn_1 := Nat.lt_of_lt_of_le hg_1 hbn.size
          have hgn_2 := Nat.lt_of_lt_of_le hg_2 hbn.size
          have hgn_3 := Nat.lt_of_lt_of_le hg_3 hbn.size
          have hgn_4 := Nat.lt_of_lt_of_le hg_4 hbn.size
          refine hK.out _ _ hSn ?_
          clear hK K hS HBc hg_0 hg_1 hg_2 hg_3 hg_4
          try simp only [List.getElem_toArray, List.getElem_cons_succ, List.getElem_cons_zero, Act.put, List.setIfInBounds_toArray, List.set_cons_zero, List.set_cons_succ]
          have hS := hSn
          have HBc := HBn
          have hg_0 := hgn_0
          have hg_1 := hgn_1
          have hg_2 := hgn_2
          have hg_3 := hgn_3
          have hg_4 := hgn_4
          clear hSn HBn hbn hgn_0 hgn_1 hgn_2 hgn_3 hgn_4
          obtain ⟨wc, rfl⟩ : ∃ x : World, x = wn := ⟨_, rfl⟩
          refine HT.take (i := 14) (oi := _) (v := .slice A6 n6 c6) rfl (by kernel_rfl) (by kernel_rfl) (by decide) (fun _ _ _ h => h) (Or.inl ⟨by rfl, ?_⟩) hS ?_
          · intro wz
            first | exact (run_field_i1 ng6 A6 n6 c6 wz) | (go_simp; done) | (go_simp; exact (run_field_i1 ng6 A6 n6 c6 wz)) | (go_simp; simp only [(run_field_i1 ng6 A6 n6 c6 wz)]; rfl) | (go_simp; simp only [(run_field_i1 ng6 A6 n6 c6 wz)])
          simp only [List.getElem_toArray, List.getElem_cons_succ, List.getElem_cons_zero, Act.put, List.setIfInBounds_toArray, List.set_cons_zero, List.set_cons_succ]
          refine HT.one (i := 15) (o := _) rfl (by kernel_rfl) (by decide) (by rfl) ?_
          intro K hK
          go_simp
          refine (QOVER_any ng3 A3 A6 n3 c3 n6 c6 _ _ (by omega) (by omega) HDP.out _ wc.heap.size (Nat.le_refl _) H3 (Lib.hid H6.out.2)).mono ?_
          rintro e wn ⟨ng7, A7, n7, c7, D7, d7, e7, rfl, hR7, k7, m7, hbn⟩
          obtain ⟨hH7, hG7⟩ := hR7
          have H7 := Lib.hid hH7
          clear hH7
          have G7 := Lib.hid hG7
          clear hG7
          clear H3 H6
          replace HA := Lib.hid ((hbn.block g14 (blk_lt HA.out)).trans HA.out)
          have HBn := Lib.hid (HBc.out.trans (hbn.mono HBc.out.size))
          have hSn : wn.cell? ⟨g5, 0, none⟩ = some (.bool ngN) ∧ wn.cell? ⟨g5, 1, none⟩ = some (.slice AN nN cN) ∧ wn.cell? ⟨g6, 0, none⟩ = some (.bool ngX) ∧ wn.cell? ⟨g6, 1, none⟩ = some (.slice AX nX cX) ∧ wn.cell? ⟨g7, 0, none⟩ = some (.bool ngY) ∧ wn.cell? ⟨g7, 1, none⟩ = some (.slice AY nY cY) ∧ wn.cell? ⟨g8, 0, none⟩ = some (.bool ngP) ∧ wn.cell? ⟨g8, 1, none⟩ = some (.slice AP nP cP) ∧ wn.cell? ⟨g9, 0, none⟩ = some (.bool ngQ) ∧ wn.cell? ⟨g9, 1, none⟩ = some (.slice AQ nQ cQ) := ⟨(hbn.cell (p := ⟨g5, 0, none⟩) hg_0).trans hS.1, (hbn.cell (p := ⟨g5, 1, none⟩) hg_0).trans hS.2.1, (hbn.cell (p := ⟨g6, 0, none⟩) hg_1).trans hS.2.2.1, (hbn.cell (p := ⟨g6, 1, none⟩) hg_1).trans hS.2.2.2.1, (hbn.cell (p := ⟨g7, 0, none⟩) hg_2).trans hS.2.2.2.2.1, (hbn.cell (p := ⟨g7, 1, none⟩) hg_2).trans hS.2.2.2.2.2.1, (hbn.cell (p := ⟨g8, 0, none⟩) hg_3).trans hS.2.2.2.2.2.2.1, (hbn.cell (p := ⟨g8, 1, none⟩) hg_3).trans hS.2.2.2.2.2.2.2.1, (hbn.cell (p := ⟨g9, 0, none⟩) hg_4).trans hS.2.2.2.2.2.2.2.2.1, (hbn.cell (p := ⟨g9, 1, none⟩) hg_4).trans hS.2.2.2.2.2.2.2.2.2⟩
          have hgn_0 := Nat.lt_of_lt_of_le hg_0 hbn.size
          have hgn_1 := Nat.lt_of_lt_of_le hg_1 hbn.size
          have hgn_2 := Nat.lt_of_lt_of_le hg_2 hbn.size
          have hgn_3 := Nat.lt_of_lt_of_le hg_3 hbn.size
          have hgn_4 := Nat.lt_of_lt_of_le hg_4 hbn.size
          refine hK.out _ _ hSn ?_
          clear hK K hS HBc hg_0 hg_1 hg_2 hg_3 hg_4
          try simp only [List.getElem_toArray, List.getElem_cons_succ, List.getElem_cons_zero, Act.put, List.setIfInBounds_toArray, List.set_cons_zero, List.set_cons_succ]
          have hS := hSn
          have HBc := HBn
          have hg_0 := hgn_0
          have hg_1 := hgn_1
          have hg_2 := hgn_2
          have hg_3 := hgn_3
          have hg_4 := hgn_4
          clear hSn HBn hbn hgn_0 hgn_1 hgn_2 hgn_3 hgn_4
          obtain ⟨wc, rfl⟩ : ∃ x : World, x = wn := ⟨_, rfl⟩
          obtain ⟨r0, r1, r2, f0, f1, f2⟩ := three_cells HA.out
          refine HT.done (by kernel_rfl) ?_
          clear hS
          simp only [List.drop_succ_cons, List.drop_zero]
          have HQB := Lib.hid (QBox.store (k := 2 * n + 11) (m := 2 * n + 11) HA.out ⟨H7.out, G7.out⟩ (by omega) (by omega))
          have HBS := Lib.hid (box3_below (v0 := .bool ng7) (v1 := .slice A7 n7 c7) (v2 := .slice D7 d7 e7) HBc.out HGg14.out)
          go_wp2_with fail
          go_meet
          exact ⟨g14, rfl, HQB, HBS⟩
          -- H7 G7 HA
      · intro K hK
        go_simp
        obtain ⟨wn, g14, hwn, hga9, hHA, hbn0, _⟩ := cell_new0 wc 42 #[.bool false, .slice none 0 0, .slice none 0 0]
        have hbn := hbn0.out
        have HGg14 : Hid (W.heap.size ≤ g14) := by show _ ≤ _; rw [hga9]; exact HBc.out.size
        rw [← hwn, ← hga9]
        have HA := hHA
        clear hwn hga9 hbn0 hHA
        replace HN := Lib.hid (HN.out.to hbn (Nat.le_refl _) hbn.size)
        replace HX := Lib.hid (HX.out.to hbn (Nat.le_refl _) hbn.size)
        replace HY := Lib.hid (HY.out.to hbn (Nat.le_refl _) hbn.size)
        replace HP := Lib.hid (HP.out.to hbn (Nat.le_refl _) hbn.size)
        replace HQ := Lib.hid (HQ.out.to hbn (Nat.le_refl _) hbn.size)
        have HBn := Lib.hid (HBc.out.trans (hbn.mono HBc.out.size))
        have hSn : wn.cell? ⟨g5, 0, none⟩ = some (.bool ngN) ∧ wn.cell? ⟨g5, 1, none⟩ = some (.slice AN nN cN) ∧ wn.cell? ⟨g6, 0, none⟩ = some (.bool ngX) ∧ wn.cell? ⟨g6, 1, none⟩ = some (.slice AX nX cX) ∧ wn.cell? ⟨g7, 0, none⟩ = some (.bool ngY) ∧ wn.cell? ⟨g7, 1, none⟩ = some (.slice AY nY cY) ∧ wn.cell? ⟨g8, 0, none⟩ = some (.bool ngP) ∧ wn.cell? ⟨g8, 1, none⟩ = some (.slice AP nP cP) ∧ wn.cell? ⟨g9, 0, none⟩ = some (.bool ngQ) ∧ wn.cell? ⟨g9, 1, none⟩ = some (.slice AQ nQ cQ) := ⟨(hbn.cell (p := ⟨g5, 0, none⟩) hg_0).trans hS.1, (hbn.cell (p := ⟨g5, 1, none⟩) hg_0).trans hS.2.1, (hbn.cell (p := ⟨g6, 0, none⟩) hg_1).trans hS.2.2.1, (hbn.cell (p := ⟨g6, 1, none⟩) hg_1).trans hS.2.2.2.1, (hbn.cell (p := ⟨g7, 0, none⟩) hg_2).trans hS.2.2.2.2.1, (hbn.cell (p := ⟨g7, 1, none⟩) hg_2).trans hS.2.2.2.2.2.1, (hbn.cell (p := ⟨g8, 0, none⟩) hg_3).trans hS.2.2.2.2.2.2.1, (hbn.cell (p := ⟨g8, 1, none⟩) hg_3).trans hS.2.2.2.2.2.2.2.1, (hbn.cell (p := ⟨g9, 0, none⟩) hg_4).trans hS.2.2.2.2.2.2.2.2.1, (hbn.cell (p := ⟨g9, 1, none⟩) hg_4).trans hS.2.2.2.2.2.2.2.2.2⟩
        have hgn_0 := Nat.lt_of_lt_of_le hg_0 hbn.size
        have hgn_1 := Nat.lt_of_lt_of_le hg_1 hbn.size
        have hgn_2 := Nat.lt_of_lt_of_le hg_2 hbn.size
        have hgn_3 := Nat.lt_of_lt_of_le hg_3 hbn.size
        have hgn_4 := Nat.lt_of_lt_of_le hg_4 hbn.size
        refine hK.out _ _ hSn ?_
        clear hK K hS HBc hg_0 hg_1 hg_2 hg_3 hg_4
        try simp only [List.getElem_toArray, List.getElem_cons_succ, List.getElem_cons_zero, Act.put, List.setIfInBounds_toArray, List.set_cons_zero, List.set_cons_succ]
        have hS := hSn
        have HBc := HBn
        have hg_0 := hgn_0
        have hg_1 := hgn_1
        have hg_2 := hgn_2
        have hg_3 := hgn_3
        have hg_4 := hgn_4
        clear hSn HBn hbn hgn_0 hgn_1 hgn_2 hgn_3 hgn_4
        obtain ⟨wc, rfl⟩ : ∃ x : World, x = wn := ⟨_, rfl⟩
        refine HT.one (i := 2) (o := _) rfl (by kernel_rfl) (by decide) (by rfl) ?_
        intro K hK
        go_simp
        refine (IMUL_any ngN ngQ AN AQ nN cN nQ cQ _ _ (by omega) (by omega) _ wc.heap.size (Nat.le_refl _) HN HQ).mono ?_
        rintro e wn ⟨ng1, A1, n1, c1, rfl, hH1, k1, hbn⟩
        have H1 := Lib.hid hH1
        clear hH1
        clear HQ
        replace HN := Lib.hid (HN.out.to hbn (Nat.le_refl _) hbn.size)
        replace HX := Lib.hid (HX.out.to hbn (Nat.le_refl _) hbn.size)
        replace HY := Lib.hid (HY.out.to hbn (Nat.le_refl _) hbn.size)
        replace HP := Lib.hid (HP.out.to hbn (Nat.le_refl _) hbn.size)
        replace HA := Lib.hid ((hbn.block g14 (blk_lt HA.out)).trans HA.out)
        have HBn := Lib.hid (HBc.out.trans (hbn.mono HBc.out.size))
        have hSn : wn.cell? ⟨g5, 0, none⟩ = some (.bool ngN) ∧ wn.cell? ⟨g5, 1, none⟩ = some (.slice AN nN cN) ∧ wn.cell? ⟨g6, 0, none⟩ = some (.bool ngX) ∧ wn.cell? ⟨g6, 1, none⟩ = some (.slice AX nX cX) ∧ wn.cell? ⟨g7, 0, none⟩ = some (.bool ngY) ∧ wn.cell? ⟨g7, 1, none⟩ = some (.slice AY nY cY) ∧ wn.cell? ⟨g8, 0, none⟩ = some (.bool ngP) ∧ wn.cell? ⟨g8, 1, none⟩ = some (.slice AP nP cP) ∧ wn.cell? ⟨g9, 0, none⟩ = some (.bool ngQ) ∧ wn.cell? ⟨g9, 1, none⟩ = some (.slice AQ nQ cQ) := ⟨(hbn.cell (p := ⟨g5, 0, none⟩) hg_0).trans hS.1, (hbn.cell (p := ⟨g5, 1, none⟩) hg_0).trans hS.2.1, (hbn.cell (p := ⟨g6, 0, none⟩) hg_1).trans hS.2.2.1, (hbn.cell (p := ⟨g6, 1, none⟩) hg_1).trans hS.2.2.2.1, (hbn.cell (p := ⟨g7, 0, none⟩) hg_2).trans hS.2.2.2.2.1, (hbn.cell (p := ⟨g7, 1, none⟩) hg_2).trans hS.2.2.2.2.2.1, (hbn.cell (p := ⟨g8, 0, none⟩) hg_3).trans hS.2.2.2.2.2.2.1, (hbn.cell (p := ⟨g8, 1, none⟩) hg_3).trans hS.2.2.2.2.2.2.2.1, (hbn.cell (p := ⟨g9, 0, none⟩) hg_4).trans hS.2.2.2.2.2.2.2.2.1, (hbn.cell (p := ⟨g9, 1, none⟩) hg_4).trans hS.2.2.2.2.2.2.2.2.2⟩
        have hgn_0 := Nat.lt_of_lt_of_le hg_0 hbn.size
        have hgn_1 := Nat.lt_of_lt_of_le hg_1 hbn.size
        have hgn_2 := Nat.lt_of_lt_of_le hg_2 hbn.size
        have hgn_3 := Nat.lt_of_lt_of_le hg_3 hbn.size
        have hgn_4 := Nat.lt_of_lt_of_le hg_4 hbn.size
        refine hK.out _ _ hSn ?_
        clear hK K hS HBc hg_0 hg_1 hg_2 hg_3 hg_4
        try simp only [List.getElem_toArray, List.getElem_cons_succ, List.getElem_cons_zero, Act.put, List.setIfInBounds_toArray, List.set_cons_zero, List.set_cons_succ]
        have hS := hSn
        have HBc := HBn
        have hg_0 := hgn_0
        have hg_1 := hgn_1
        have hg_2 := hgn_2
        have hg_3 := hgn_3
        have hg_4 := hgn_4
        clear hSn HBn hbn hgn_0 hgn_1 hgn_2 hgn_3 hgn_4
        obtain ⟨wc, rfl⟩ : ∃ x : World, x = wn := ⟨_, rfl⟩
        refine HT.one (i := 5) (o := _) rfl (by kernel_rfl) (by decide) (by rfl) ?_
        intro K hK
        go_simp
        refine (IMUL_any ngX ngY AX AY nX cX nY cY _ _ (by omega) (by omega) _ wc.heap.size (Nat.le_refl _) HX HY).mono ?_
        rintro e wn ⟨ng2, A2, n2, c2, rfl, hH2, k2, hbn⟩
        have H2 := Lib.hid hH2
        clear hH2
        clear HY
        replace HN := Lib.hid (HN.out.to hbn (Nat.le_refl _) hbn.size)
        replace HX := Lib.hid (HX.out.to hbn (Nat.le_refl _) hbn.size)
        replace HP := Lib.hid (HP.out.to hbn (Nat.le_refl _) hbn.size)
        replace HA := Lib.hid ((hbn.block g14 (blk_lt HA.out)).trans HA.out)
        replace H1 := Lib.hid (H1.out.to hbn (Nat.le_refl _) hbn.size)
        have HBn := Lib.hid (HBc.out.trans (hbn.mono HBc.out.size))
        have hSn : wn.cell? ⟨g5, 0, none⟩ = some (.bool ngN) ∧ wn.cell? ⟨g5, 1, none⟩ = some (.slice AN nN cN) ∧ wn.cell? ⟨g6, 0, none⟩ = some (.bool ngX) ∧ wn.cell? ⟨g6, 1, none⟩ = some (.slice AX nX cX) ∧ wn.cell? ⟨g7, 0, none⟩ = some (.bool ngY) ∧ wn.cell? ⟨g7, 1, none⟩ = some (.slice AY nY cY) ∧ wn.cell? ⟨g8, 0, none⟩ = some (.bool ngP) ∧ wn.cell? ⟨g8, 1, none⟩ = some (.slice AP nP cP) ∧ wn.cell? ⟨g9, 0, none⟩ = some (.bool ngQ) ∧ wn.cell? ⟨g9, 1, none⟩ = some (.slice AQ nQ cQ) := ⟨(hbn.cell (p := ⟨g5, 0, none⟩) hg_0).trans hS.1, (hbn.cell (p := ⟨g5, 1, none⟩) hg_0).trans hS.2.1, (hbn.cell (p := ⟨g6, 0, none⟩) hg_1).trans hS.2.2.1, (hbn.cell (p := ⟨g6, 1, none⟩) hg_1).trans hS.2.2.2.1, (hbn.cell (p := ⟨g7, 0, none⟩) hg_2).trans hS.2.2.2.2.1, (hbn.cell (p := ⟨g7, 1, none⟩) hg_2).trans hS.2.2.2.2.2.1, (hbn.cell (p := ⟨g8, 0, none⟩) hg_3).trans hS.2.2.2.2.2.2.1, (hbn.cell (p := ⟨g8, 1, none⟩) hg_3).trans hS.2.2.2.2.2.2.2.1, (hbn.cell (p := ⟨g9, 0, none⟩) hg_4).trans hS.2.2.2.2.2.2.2.2.1, (hbn.cell (p := ⟨g9, 1, none⟩) hg_4).trans hS.2.2.2.2.2.2.2.2.2⟩
        have hgn_0 := Nat.lt_of_lt_of_le hg_0 hbn.size
        have hgn_1 := Nat.lt_of_lt_of_le hg_1 hbn.size
        have hgn_2 := Nat.lt_of_lt_of_le hg_2 hbn.size
        have hgn_3 := Nat.lt_of_lt_of_le hg_3 hbn.size
        have hgn_4 := Nat.lt_of_lt_of_le hg_4 hbn.size
        refine hK.out _ _ hSn ?_
        clear hK K hS HBc hg_0 hg_1 hg_2 hg_3 hg_4
        try simp only [List.getElem_toArray, List.getElem_cons_succ, List.getElem_cons_zero, Act.put, List.setIfInBounds_toArray, List.set_cons_zero, List.set_cons_succ]
        have hS := hSn
        have HBc := HBn
        have hg_0 := hgn_0
        have hg_1 := hgn_1
        have hg_2 := hgn_2
        have hg_3 := hgn_3
        have hg_4 := hgn_4
        clear hSn HBn hbn hgn_0 hgn_1 hgn_2 hgn_3 hgn_4
        obtain ⟨wc, rfl⟩ : ∃ x : World, x = wn := ⟨_, rfl⟩
        refine HT.one (i := 6) (o := _) rfl (by kernel_rfl) (by decide) (by rfl) ?_
        intro K hK
        go_simp
        refine (ISUB_any ng1 ng2 A1 A2 n1 c1 n2 c2 _ _ (by omega) (by omega) _ wc.heap.size (Nat.le_refl _) H1 H2).mono ?_
        rintro e wn ⟨ng3, A3, n3, c3, rfl, hH3, k3, hbn⟩
        have H3 := Lib.hid hH3
        clear hH3
        clear H1 H2
        replace HN := Lib.hid (HN.out.to hbn (Nat.le_refl _) hbn.size)
        replace HX := Lib.hid (HX.out.to hbn (Nat.le_refl _) hbn.size)
        replace HP := Lib.hid (HP.out.to hbn (Nat.le_refl _) hbn.size)
        replace HA := Lib.hid ((hbn.block g14 (blk_lt HA.out)).trans HA.out)
        have HBn := Lib.hid (HBc.out.trans (hbn.mono HBc.out.size))
        have hSn : wn.cell? ⟨g5, 0, none⟩ = some (.bool ngN) ∧ wn.cell? ⟨g5, 1, none⟩ = some (.slice AN nN cN) ∧ wn.cell? ⟨g6, 0, none⟩ = some (.bool ngX) ∧ wn.cell? ⟨g6, 1, none⟩ = some (.slice AX nX cX) ∧ wn.cell? ⟨g7, 0, none⟩ = some (.bool ngY) ∧ wn.cell? ⟨g7, 1, none⟩ = some (.slice AY nY cY) ∧ wn.cell? ⟨g8, 0, none⟩ = some (.bool ngP) ∧ wn.cell? ⟨g8, 1, none⟩ = some (.slice AP nP cP) ∧ wn.cell? ⟨g9, 0, none⟩ = some (.bool ngQ) ∧ wn.cell? ⟨g9, 1, none⟩ = some (.slice AQ nQ cQ) := ⟨(hbn.cell (p := ⟨g5, 0, none⟩) hg_0).trans hS.1, (hbn.cell (p := ⟨g5, 1, none⟩) hg_0).trans hS.2.1, (hbn.cell (p := ⟨g6, 0, none⟩) hg_1).trans hS.2.2.1, (hbn.cell (p := ⟨g6, 1, none⟩) hg_1).trans hS.2.2.2.1, (hbn.cell (p := ⟨g7, 0, none⟩) hg_2).trans hS.2.2.2.2.1, (hbn.cell (p := ⟨g7, 1, none⟩) hg_2).trans hS.2.2.2.2.2.1, (hbn.cell (p := ⟨g8, 0, none⟩) hg_3).trans hS.2.2.2.2.2.2.1, (hbn.cell (p := ⟨g8, 1, none⟩) hg_3).trans hS.2.2.2.2.2.2.2.1, (hbn.cell (p := ⟨g9, 0, none⟩) hg_4).trans hS.2.2.2.2.2.2.2.2.1, (hbn.cell (p := ⟨g9, 1, none⟩) hg_4).trans hS.2.2.2.2.2.2.2.2.2⟩
        have hgn_0 := Nat.lt_of_lt_of_le hg_0 hbn.size
        have hgn_1 := Nat.lt_of_lt_of_le hg_1 hbn.size
        have hgn_2 := Nat.lt_of_lt_of_le hg_2 hbn.size
        have hgn_3 := Nat.lt_of_lt_of_le hg_3 hbn.size
        have hgn_4 := Nat.lt_of_lt_of_le hg_4 hbn.size
        refine hK.out _ _ hSn ?_
        clear hK K hS HBc hg_0 hg_1 hg_2 hg_3 hg_4
        try simp only [List.getElem_toArray, List.getElem_cons_succ, List.getElem_cons_zero, Act.put, List.setIfInBounds_toArray, List.set_cons_zero, List.set_cons_succ]
        have hS := hSn
        have HBc := HBn
        have hg_0 := hgn_0
        have hg_1 := hgn_1
        have hg_2 := hgn_2
        have hg_3 := hgn_3
        have hg_4 := hgn_4
        clear hSn HBn hbn hgn_0 hgn_1 hgn_2 hgn_3 hgn_4
        obtain ⟨wc, rfl⟩ : ∃ x : World, x = wn := ⟨_, rfl⟩
        refine HT.one (i := 9) (o := _) rfl (by kernel_rfl) (by decide) (by rfl) ?_
        intro K hK
        go_simp
        refine (IMUL_any ngN ngP AN AP nN cN nP cP _ _ (by omega) (by omega) _ wc.heap.size (Nat.le_refl _) HN HP).mono ?_
        rintro e wn ⟨ng4, A4, n4, c4, rfl, hH4, k4, hbn⟩
        have H4 := Lib.hid hH4
        clear hH4
        clear HN HP
        replace HX := Lib.hid (HX.out.to hbn (Nat.le_refl _) hbn.size)
        replace HA := Lib.hid ((hbn.block g14 (blk_lt HA.out)).trans HA.out)
        replace H3 := Lib.hid (H3.out.to hbn (Nat.le_refl _) hbn.size)
        have HBn := Lib.hid (HBc.out.trans (hbn.mono HBc.out.size))
        have hSn : wn.cell? ⟨g5, 0, none⟩ = some (.bool ngN) ∧ wn.cell? ⟨g5, 1, none⟩ = some (.slice AN nN cN) ∧ wn.cell? ⟨g6, 0, none⟩ = some (.bool ngX) ∧ wn.cell? ⟨g6, 1, none⟩ = some (.slice AX nX cX) ∧ wn.cell? ⟨g7, 0, none⟩ = some (.bool ngY) ∧ wn.cell? ⟨g7, 1, none⟩ = some (.slice AY nY cY) ∧ wn.cell? ⟨g8, 0, none⟩ = some (.bool ngP) ∧ wn.cell? ⟨g8, 1, none⟩ = some (.slice AP nP cP) ∧ wn.cell? ⟨g9, 0, none⟩ = some (.bool ngQ) ∧ wn.cell? ⟨g9, 1, none⟩ = some (.slice AQ nQ cQ) := ⟨(hbn.cell (p := ⟨g5, 0, none⟩) hg_0).trans hS.1, (hbn.cell (p := ⟨g5, 1, none⟩) hg_0).trans hS.2.1, (hbn.cell (p := ⟨g6, 0, none⟩) hg_1).trans hS.2.2.1, (hbn.cell (p := ⟨g6, 1, none⟩) hg_1).trans hS.2.2.2.1, (hbn.cell (p := ⟨g7, 0, none⟩) hg_2).trans hS.2.2.2.2.1, (hbn.cell (p := ⟨g7, 1, none⟩) hg_2).trans hS.2.2.2.2.2.1, (hbn.cell (p := ⟨g8, 0, none⟩) hg_3).trans hS.2.2.2.2.2.2.1, (hbn.cell (p := ⟨g8, 1, none⟩) hg_3).trans hS.2.2.2.2.2.2.2.1, (hbn.cell (p := ⟨g9, 0, none⟩) hg_4).trans hS.2.2.2.2.2.2.2.2.1, (hbn.cell (p := ⟨g9, 1, none⟩) hg_4).trans hS.2.2.2.2.2.2.2.2.2⟩
        have hgn_0 := Nat.lt_of_lt_of_le hg_0 hbn.size
        have hgn_1 := Nat.lt_of_lt_of_le hg_1 hbn.size
        have hgn_2 := Nat.lt_of_lt_of_le hg_2 hbn.size
        have hgn_3 := Nat.lt_of_lt_of_le hg_3 hbn.size
        have hgn_4 := Nat.lt_of_lt_of_le hg_4 hbn.size
        refine hK.out _ _ hSn ?_
        clear hK K hS HBc hg_0 hg_1 hg_2 hg_3 hg_4
        try simp only [List.getElem_toArray, List.getElem_cons_succ, List.getElem_cons_zero, Act.put, List.setIfInBounds_toArray, List.set_cons_zero, List.set_cons_succ]
        have hS := hSn
        have HBc := HBn
        have hg_0 := hgn_0
        have hg_1 := hgn_1
        have hg_2 := hgn_2
        have hg_3 := hgn_3
        have hg_4 := hgn_4
        clear hSn HBn hbn hgn_0 hgn_1 hgn_2 hgn_3 hgn_4
        obtain ⟨wc, rfl⟩ : ∃ x : World, x = wn := ⟨_, rfl⟩
        refine HT.one (i := 12) (o := _) rfl (by kernel_rfl) (by decide) (by rfl) ?_
        intro K hK
        go_simp
        refine (IMUL_any ngX ngX AX AX nX cX nX cX _ _ (by omega) (by omega) _ wc.heap.size (Nat.le_refl _) HX HX).mono ?_
        rintro e wn ⟨ng5, A5, n5, c5, rfl, hH5, k5, hbn⟩
        have H5 := Lib.hid hH5
        clear hH5
        clear HX
        replace HA := Lib.hid ((hbn.block g14 (blk_lt HA.out)).trans HA.out)
        replace H3 := Lib.hid (H3.out.to hbn (Nat.le_refl _) hbn.size)
        replace H4 := Lib.hid (H4.out.to hbn (Nat.le_refl _) hbn.size)
        have HBn := Lib.hid (HBc.out.trans (hbn.mono HBc.out.size))
        have hSn : wn.cell? ⟨g5, 0, none⟩ = some (.bool ngN) ∧ wn.cell? ⟨g5, 1, none⟩ = some (.slice AN nN cN) ∧ wn.cell? ⟨g6, 0, none⟩ = some (.bool ngX) ∧ wn.cell? ⟨g6, 1, none⟩ = some (.slice AX nX cX) ∧ wn.cell? ⟨g7, 0, none⟩ = some (.bool ngY) ∧ wn.cell? ⟨g7, 1, none⟩ = some (.slice AY nY cY) ∧ wn.cell? ⟨g8, 0, none⟩ = some (.bool ngP) ∧ wn.cell? ⟨g8, 1, none⟩ = some (.slice AP nP cP) ∧ wn.cell? ⟨g9, 0, none⟩ = some (.bool ngQ) ∧ wn.cell? ⟨g9, 1, none⟩ = some (.slice AQ nQ cQ) := ⟨(hbn.cell (p := ⟨g5, 0, none⟩) hg_0).trans hS.1, (hbn.cell (p := ⟨g5, 1, none⟩) hg_0).trans hS.2.1, (hbn.cell (p := ⟨g6, 0, none⟩) hg_1).trans hS.2.2.1, (hbn.cell (p := ⟨g6, 1, none⟩) hg_1).trans hS.2.2.2.1, (hbn.cell (p := ⟨g7, 0, none⟩) hg_2).trans hS.2.2.2.2.1, (hbn.cell (p := ⟨g7, 1, none⟩) hg_2).trans hS.2.2.2.2.2.1, (hbn.cell (p := ⟨g8, 0, none⟩) hg_3).trans hS.2.2.2.2.2.2.1, (hbn.cell (p := ⟨g8, 1, none⟩) hg_3).trans hS.2.2.2.2.2.2.2.1, (hbn.cell (p := ⟨g9, 0, none⟩) hg_4).trans hS.2.2.2.2.2.2.2.2.1, (hbn.cell (p := ⟨g9, 1, none⟩) hg_4).trans hS.2.2.2.2.2.2.2.2.2⟩
        have hgn_0 := Nat.lt_of_lt_of_le hg_0 hbn.size
        have hgn_1 := Nat.lt_of_lt_of_le hg_1 hbn.size
        have hgn_2 := Nat.lt_of_lt_of_le hg_2 hbn.size
        have hgn_3 := Nat.lt_of_lt_of_le hg_3 hbn.size
        have hgn_4 := Nat.lt_of_lt_of_le hg_4 hbn.size
        refine hK.out _ _ hSn ?_
        clear hK K hS HBc hg_0 hg_1 hg_2 hg_3 hg_4
        try simp only [List.getElem_toArray, List.getElem_cons_succ, List.getElem_cons_zero, Act.put, List.setIfInBounds_toArray, List.set_cons_zero, List.set_cons_succ]
        have hS := hSn
        have HBc := HBn
        have hg_0 := hgn_0
        have hg_1 := hgn_1
        have hg_2 := hgn_2
        have hg_3 := hgn_3
        have hg_4 := hgn_4
        clear hSn HBn hbn hgn_0 hgn_1 hgn_2 hgn_3 hgn_4
        obtain ⟨wc, rfl⟩ : ∃ x : World, x = wn := ⟨_, rfl⟩
        refine HT.one (i := 13) (o := _) rfl (by kernel_rfl) (by decide) (by rfl) ?_
        intro K hK
        go_simp
        refine (ISUB_any ng4 ng5 A4 A5 n4 c4 n5 c5 _ _ (by omega) (by omega) _ wc.heap.size (Nat.le_refl _) H4 H5).mono ?_
        rintro e wn ⟨ng6, A6, n6, c6, rfl, hH6, k6, hbn⟩
        have H6 := Lib.hid hH6
        clear hH6
        clear H4 H5
        replace HA := Lib.hid ((hbn.block g14 (blk_lt HA.out)).trans HA.out)
        replace H3 := Lib.hid (H3.out.to hbn (Nat.le_refl _) hbn.size)
        have HBn := Lib.hid (HBc.out.trans (hbn.mono HBc.out.size))
        have hSn : wn.cell? ⟨g5, 0, none⟩ = some (.bool ngN) ∧ wn.cell? ⟨g5, 1, none⟩ = some (.slice AN nN cN) ∧ wn.cell? ⟨g6, 0, none⟩ = some (.bool ngX) ∧ wn.cell? ⟨g6, 1, none⟩ = some (.slice AX nX cX) ∧ wn.cell? ⟨g7, 0, none⟩ = some (.bool ngY) ∧ wn.cell? ⟨g7, 1, none⟩ = some (.slice AY nY cY) ∧ wn.cell? ⟨g8, 0, none⟩ = some (.bool ngP) ∧ wn.cell? ⟨g8, 1, none⟩ = some (.slice AP nP cP) ∧ wn.cell? ⟨g9, 0, none⟩ = some (.bool ngQ) ∧ wn.cell? ⟨g9, 1, none⟩ = some (.slice AQ nQ cQ) := ⟨(hbn.cell (p := ⟨g5, 0, none⟩) hg_0).trans hS.1, (hbn.cell (p := ⟨g5, 1, none⟩) hg_0).trans hS.2.1, (hbn.cell (p := ⟨g6, 0, none⟩) hg_1).trans hS.2.2.1, (hbn.cell (p := ⟨g6, 1, none⟩) hg_1).trans hS.2.2.2.1, (hbn.cell (p := ⟨g7, 0, none⟩) hg_2).trans hS.2.2.2.2.1, (hbn.cell (p := ⟨g7, 1, none⟩) hg_2).trans hS.2.2.2.2.2.1, (hbn.cell (p := ⟨g8, 0, none⟩) hg_3).trans hS.2.2.2.2.2.2.1, (hbn.cell (p := ⟨g8, 1, none⟩) hg_3).trans hS.2.2.2.2.2.2.2.1, (hbn.cell (p := ⟨g9, 0, none⟩) hg_4).trans hS.2.2.2.2.2.2.2.2.1, (hbn.cell (p := ⟨g9, 1, none⟩) hg_4).trans hS.2.2.2.2.2.2.2.2.2⟩
        have hgn_0 := Nat.lt_of_lt_of_le hg_0 hbn.size
        have hgn_1 := Nat.lt_of_lt_of_le hg_1 hbn.size
        have hgn_2 := Nat.lt_of_lt_of_le hg_2 hbn.size
        have hgn_3 := Nat.lt_of_lt_of_le hg_3 hbn.size
        have hgn_4 := Nat.lt_of_lt_of_le hg_4 hbn.size
        refine hK.out _ _ hSn ?_
        clear hK K hS HBc hg_0 hg_1 hg_2 hg_3 hg_4
        try simp only [List.getElem_toArray, List.getElem_cons_succ, List.getElem_cons_zero, Act.put, List.setIfInBounds_toArray, List.set_cons_zero, List.set_cons_succ]
        have hS := hSn
        have HBc := HBn
        have hg_0 := hgn_0
        have hg_1 := hgn_1
        have hg_2 := hgn_2
        have hg_3 := hgn_3
        have hg_4 := hgn_4
        clear hSn HBn hbn hgn_0 hgn_1 hgn_2 hgn_3 hgn_4
        obtain ⟨wc, rfl⟩ : ∃ x : World, x = wn := ⟨_, rfl⟩
        refine HT.take (i := 14) (oi := _) (v := .slice A6 n6 c6) rfl (by kernel_rfl) (by kernel_rfl) (by decide) (fun _ _ _ h => h) (Or.inl ⟨by rfl, ?_⟩) hS ?_
        · intro wz
          first | exact (run_field_i1 ng6 A6 n6 c6 wz) | (go_simp; done) | (go_simp; exact (run_field_i1 ng6 A6 n6 c6 wz)) | (go_simp; simp only [(run_field_i1 ng6 A6 n6 c6 wz)]; rfl) | (go_simp; simp only [(run_field_i1 ng6 A6 n6 c6 wz)])
        simp only [List.getElem_toArray, List.getElem_cons_succ, List.getElem_cons_zero, Act.put, List.setIfInBounds_toArray, List.set_cons_zero, List.set_cons_succ]
        refine HT.one (i := 15) (o := _) rfl (by kernel_rfl) (by decide) (by rfl) ?_
        intro K hK
        go_simp
        refine (QOVER_any ng3 A3 A6 n3 c3 n6 c6 _ _ (by omega) (by omega) HDP.out _ wc.heap.size (Nat.le_refl _) H3 (Lib.hid H6.out.2)).mono ?_
        rintro e wn ⟨ng7, A7, n7, c7, D7, d7, e7, rfl, hR7, k7, m7, hbn⟩
        obtain ⟨hH7, hG7⟩ := hR7
        have H7 := Lib.hid hH7
        clear hH7
        have G7 := Lib.hid hG7
        clear hG7
        clear H3 H6
        replace HA := Lib.hid ((hbn.block g14 (blk_lt HA.out)).trans HA.out)
        have HBn := Lib.hid (HBc.out.trans (hbn.mono HBc.out.size))
        have hSn : wn.cell? ⟨g5, 0, none⟩ = some (.bool ngN) ∧ wn.cell? ⟨g5, 1, none⟩ = some (.slice AN nN cN) ∧ wn.cell? ⟨g6, 0, none⟩ = some (.bool ngX) ∧ wn.cell? ⟨g6, 1, none⟩ = some (.slice AX nX cX) ∧ wn.cell? ⟨g7, 0, none⟩ = some (.bool ngY) ∧ wn.cell? ⟨g7, 1, none⟩ = some (.slice AY nY cY) ∧ wn.cell? ⟨g8, 0, none⟩ = some (.bool ngP) ∧ wn.cell? ⟨g8, 1, none⟩ = some (.slice AP nP cP) ∧ wn.cell? ⟨g9, 0, none⟩ = some (.bool ngQ) ∧ wn.cell? ⟨g9, 1, none⟩ = some (.slice AQ nQ cQ) := ⟨(hbn.cell (p := ⟨g5, 0, none⟩) hg_0).trans hS.1, (hbn.cell (p := ⟨g5, 1, none⟩) hg_0).trans hS.2.1, (hbn.cell (p := ⟨g6, 0, none⟩) hg_1).trans hS.2.2.1, (hbn.cell (p := ⟨g6, 1, none⟩) hg_1).trans hS.2.2.2.1, (hbn.cell (p := ⟨g7, 0, none⟩) hg_2).trans hS.2.2.2.2.1, (hbn.cell (p := ⟨g7, 1, none⟩) hg_2).trans hS.2.2.2.2.2.1, (hbn.cell (p := ⟨g8, 0, none⟩) hg_3).trans hS.2.2.2.2.2.2.1, (hbn.cell (p := ⟨g8, 1, none⟩) hg_3).trans hS.2.2.2.2.2.2.2.1, (hbn.cell (p := ⟨g9, 0, none⟩) hg_4).trans hS.2.2.2.2.2.2.2.2.1, (hbn.cell (p := ⟨g9, 1, none⟩) hg_4).trans hS.2.2.2.2.2.2.2.2.2⟩
        have hgn_0 := Nat.lt_of_lt_of_le hg_0 hbn.size
        have hgn_1 := Nat.lt_of_lt_of_le hg_1 hbn.size
        have hgn_2 := Nat.lt_of_lt_of_le hg_2 hbn.size
        have hgn_3 := Nat.lt_of_lt_of_le hg_3 hbn.size
        have hgn_4 := Nat.lt_of_lt_of_le hg_4 hbn.size
        refine hK.out _ _ hSn ?_
        clear hK K hS HBc hg_0 hg_1 hg_2 hg_3 hg_4
        try simp only [List.getElem_toArray, List.getElem_cons_succ, List.getElem_cons_zero, Act.put, List.setIfInBounds_toArray, List.set_cons_zero, List.set_cons_succ]
        have hS := hSn
        have HBc := HBn
        have hg_0 := hgn_0
        have hg_1 := hgn_1
        have hg_2 := hgn_2
        have hg_3 := hgn_3
        have hg_4 := hgn_4
        clear hSn HBn hbn hgn_0 hgn_1 hgn_2 hgn_3 hgn_4
        obtain ⟨wc, rfl⟩ : ∃ x : World, x = wn := ⟨_, rfl⟩
        obtain ⟨r0, r1, r2, f0, f1, f2⟩ := three_cells HA.out
        refine HT.done (by kernel_rfl) ?_
        clear hS
        simp only [List.drop_succ_cons, List.drop_zero]
        have HQB := Lib.hid (QBox.store (k := 2 * n + 11) (m := 2 * n + 11) HA.out ⟨H7.out, G7.out⟩ (by omega) (by omega))
        have HBS := Lib.hid (box3_below (v0 := .bool ng7) (v1 := .slice A7 n7 c7) (v2 := .slice D7 d7 e7) HBc.out HGg14.out)
        go_wp2_with fail
        go_meet
        exact ⟨g14, rfl, HQB, HBS⟩
        -- H7 G7 HA
    case rest =>
    obtain ⟨g14, rfl, HQB, HBV⟩ := hcut
    obtain ⟨V, rfl⟩ : ∃ x : World, x = wc := ⟨_, rfl⟩
    replace I5 := Lib.hid (I5.out.below HBV.out)
    replace I6 := Lib.hid (I6.out.below HBV.out)
    replace I7 := Lib.hid (I7.out.below HBV.out)
    obtain ⟨q9, hq9⟩ : ∃ q, mkRat ((n : Int) * Q - X * Y) ((n : Int) * P - X * X).natAbs = q := ⟨_, rfl⟩
    rw [hq9] at HQB
    have HQ9 := Lib.hid hq9
    have HBA1 := Lib.hid (HBA0.out.trans (HBV.out.mono HBA0.out.size))
    clear hq9 I8 I9 HBV HBA0
    go_upto_region 14 with (go_at_call 13; refine (NONE_any _).mono ?_; rintro e w15 ⟨A1, n1, c1, rfl, h1, k1, hb15⟩)
    obtain ⟨W15, rfl⟩ : ∃ x : World, x = w15 := ⟨_, rfl⟩
    replace I5 := Lib.hid (I5.out.below hb15)
    replace I6 := Lib.hid (I6.out.below hb15)
    replace I7 := Lib.hid (I7.out.below hb15)
    replace HQB := Lib.hid (HQB.out.below hb15)
    have HBA2 := Lib.hid (HBA1.out.trans (hb15.mono HBA1.out.size))
    have H1 := Lib.hid h1
    clear hb15 h1 HBA1
    have HNN : Hid ((((n : Int) : Rat)) ≠ 0) := fun h => by
      have := congrArg Rat.num h
      simp at this
      omega
    go_cut [16] (fun v16 wx => ∃ g16 : Nat, v16 = .pointer (some ⟨g16, 0, none⟩) ∧ Hid (QBox wx g16 (((Y : Rat) - q9 * (X : Rat)) / ((n : Int) : Rat)) 10000 10000) ∧ Hid (Below W15.heap.size W15 wx))
    case first =>
      obtain ⟨ngN, AN, nN, cN, bN, hN, kN⟩ := I5.out
      obtain ⟨ngX, AX, nX, cX, bX, hX, kX⟩ := I6.out
      obtain ⟨ngY, AY, nY, cY, bY, hY, kY⟩ := I7.out
      obtain ⟨ngS, AS, nS, cS, DS, dS, eS, bS, hS0, kS, mS⟩ := HQB.out
      have HBN := Lib.hid bN
      have HBX := Lib.hid bX
      have HBY := Lib.hid bY
      have HBS := Lib.hid bS
      have HS9 := Lib.hid hS0
      have HNR : Hid (RatAt W15 W15.heap.size ngN AN nN cN A1 n1 c1 ((n : Int) : Rat)) := ⟨by rw [Rat.num_intCast]; exact hN, by rw [Rat.den_intCast]; exact H1.out⟩
      have HXR : Hid (RatAt W15 W15.heap.size ngX AX nX cX A1 n1 c1 ((X : Int) : Rat)) := ⟨by rw [Rat.num_intCast]; exact hX, by rw [Rat.den_intCast]; exact H1.out⟩
      have HYR : Hid (RatAt W15 W15.heap.size ngY AY nY cY A1 n1 c1 ((Y : Int) : Rat)) := ⟨by rw [Rat.num_intCast]; exact hY, by rw [Rat.den_intCast]; exact H1.out⟩
      obtain ⟨u0, u1, _, _⟩ := two_cells bN
      obtain ⟨x0, x1, _, _⟩ := two_cells bX
      obtain ⟨y0, y1, _, _⟩ := two_cells bY
      obtain ⟨s0, s1, s2, _, _, _⟩ := three_cells bS
      clear bN bX bY bS hN hX hY hS0 I5 I6 I7 HQB H1
      refine wp_region_text 14 (fun x9 => x9.cell? ⟨g14, 0, none⟩ = some (.bool ngS) ∧ x9.cell? ⟨g14, 1, none⟩ = some (.slice AS nS cS) ∧ x9.cell? ⟨g14, 2, none⟩ = some (.slice DS dS eS) ∧ x9.cell? ⟨g7, 0, none⟩ = some (.bool ngY) ∧ x9.cell? ⟨g7, 1, none⟩ = some (.slice AY nY cY) ∧ x9.cell? ⟨g6, 0, none⟩ = some (.bool ngX) ∧ x9.cell? ⟨g6, 1, none⟩ = some (.slice AX nX cX) ∧ x9.cell? ⟨g5, 0, none⟩ = some (.bool ngN) ∧ x9.cell? ⟨g5, 1, none⟩ = some (.slice AN nN cN)) (by kernel_rfl) (by kernel_rfl) ?_
      obtain ⟨wc, hwc⟩ : ∃ x : World, x = W15.drew := ⟨_, rfl⟩
      have hbn : Below W15.heap.size W15 W15.drew := (Below.refl _ _).drew
      have HS9 := Lib.hid (HS9.out.to hbn (Nat.le_refl _) hbn.size)
      have HYR := Lib.hid (HYR.out.to hbn (Nat.le_refl _) hbn.size)
      have HXR := Lib.hid (HXR.out.to hbn (Nat.le_refl _) hbn.size)
      have HNR := Lib.hid (HNR.out.to hbn (Nat.le_refl _) hbn.size)
      clear hbn
      have HBc : Hid (Below W15.heap.size W15 wc) := by show Below _ _ _; rw [hwc]; exact (Below.refl _ _).drew
      have hS : wc.cell? ⟨g14, 0, none⟩ = some (.bool ngS) ∧ wc.cell? ⟨g14, 1, none⟩ = some (.slice AS nS cS) ∧ wc.cell? ⟨g14, 2, none⟩ = some (.slice DS dS eS) ∧ wc.cell? ⟨g7, 0, none⟩ = some (.bool ngY) ∧ wc.cell? ⟨g7, 1, none⟩ = some (.slice AY nY cY) ∧ wc.cell? ⟨g6, 0, none⟩ = some (.bool ngX) ∧ wc.cell? ⟨g6, 1, none⟩ = some (.slice AX nX cX) ∧ wc.cell? ⟨g5, 0, none⟩ = some (.bool ngN) ∧ wc.cell? ⟨g5, 1, none⟩ = some (.slice AN nN cN) := by rw [hwc]; exact ⟨s0, s1, s2, y0, y1, x0, x1, u0, u1⟩
      have hg_0 : g14 < wc.heap.size := by rw [hwc]; exact blk_lt HBS.out
      have hg_1 : g7 < wc.heap.size := by rw [hwc]; exact blk_lt HBY.out
      have hg_2 : g6 < wc.heap.size := by rw [hwc]; exact blk_lt HBX.out
      have hg_3 : g5 < wc.heap.size := by rw [hwc]; exact blk_lt HBN.out
      rw [← hwc] at HS9 HYR HXR HNR
      rw [← hwc]
      clear hwc
      refine HT.load (i := 0) (oi := _) (v := ?_) rfl (by kernel_rfl) (by kernel_rfl) (by decide) (fun _ _ _ h => h) (by kernel_rfl) (Or.inl ⟨by rfl, ?_⟩) hS ?_
      rotate_left
      · intro wz hwz
        try dsimp only at hwz
        go_simp
        try with_reducible rfl
      simp only [List.getElem_toArray, List.getElem_cons_succ, List.getElem_cons_zero, Act.put, List.setIfInBounds_toArray, List.set_cons_zero, List.set_cons_succ]
      refine HT.take (i := 1) (oi := _) (v := ?_) rfl (by kernel_rfl) (by kernel_rfl) (by decide) (fun _ _ _ h => h) (Or.inl ⟨by rfl, ?_⟩) hS ?_
      rotate_left
      · intro wz
        go_simp
        try with_reducible rfl
      simp only [List.getElem_toArray, List.getElem_cons_succ, List.getElem_cons_zero, Act.put, List.setIfInBounds_toArray, List.set_cons_zero, List.set_cons_succ]
      refine HT.take (i := 2) (oi := _) (v := ?_) rfl (by kernel_rfl) (by kernel_rfl) (by decide) (fun _ _ _ h => h) (Or.inl ⟨by rfl, ?_⟩) hS ?_
      rotate_left
      · intro wz
        go_simp
        try with_reducible rfl
      simp only [List.getElem_toArray, List.getElem_cons_succ, List.getElem_cons_zero, Act.put, List.setIfInBounds_toArray, List.set_cons_zero, List.set_cons_succ]
      refine HT.load (i := 3) (oi := _) (v := ?_) rfl (by kernel_rfl) (by kernel_rfl) (by decide) (fun _ _ _ h => h) (by kernel_rfl) (Or.inl ⟨by rfl, ?_⟩) hS ?_
      rotate_left
      · intro wz hwz
        try dsimp only at hwz
        go_simp
        try with_reducible rfl
      simp only [List.getElem_toArray, List.getElem_cons_succ, List.getElem_cons_zero, Act.put, List.setIfInBounds_toArray, List.set_cons_zero, List.set_cons_succ]
      refine HT.load (i := 4) (oi := _) (v := ?_) rfl (by kernel_rfl) (by kernel_rfl) (by decide) (fun _ _ _ h => h) (by kernel_rfl) (Or.inl ⟨by rfl, ?_⟩) hS ?_
      rotate_left
      · intro wz hwz
        try dsimp only at hwz
        go_simp
        try with_reducible rfl
      simp only [List.getElem_toArray, List.getElem_cons_succ, List.getElem_cons_zero, Act.put, List.setIfInBounds_toArray, List.set_cons_zero, List.set_cons_succ]
      refine HT.take (i := 5) (oi := _) (v := ?_) rfl (by kernel_rfl) (by kernel_rfl) (by decide) (fun _ _ _ h => h) (Or.inl ⟨by rfl, ?_⟩) hS ?_
      rotate_left
      · intro wz
        go_simp
        try with_reducible rfl
      simp only [List.getElem_toArray, List.getElem_cons_succ, List.getElem_cons_zero, Act.put, List.setIfInBounds_toArray, List.set_cons_zero, List.set_cons_succ]
      refine HT.take (i := 6) (oi := _) (v := ?_) rfl (by kernel_rfl) (by kernel_rfl) (by decide) (fun _ _ _ h => h) (Or.inl ⟨by rfl, ?_⟩) hS ?_
      rotate_left
      · intro wz
        go_simp
        try with_reducible rfl
      simp only [List.getElem_toArray, List.getElem_cons_succ, List.getElem_cons_zero, Act.put, List.setIfInBounds_toArray, List.set_cons_zero, List.set_cons_succ]
      refine HT.load (i := 9) (oi := _) (v := ?_) rfl (by kernel_rfl) (by kernel_rfl) (by decide) (fun _ _ _ h => h) (by kernel_rfl) (Or.inl ⟨by rfl, ?_⟩) hS ?_
      rotate_left
      · intro wz hwz
        try dsimp only at hwz
        go_simp
        try with_reducible rfl
      simp only [List.getElem_toArray, List.getElem_cons_succ, List.getElem_cons_zero, Act.put, List.setIfInBounds_toArray, List.set_cons_zero, List.set_cons_succ]
      refine HT.take (i := 10) (oi := _) (v := ?_) rfl (by kernel_rfl) (by kernel_rfl) (by decide) (fun _ _ _ h => h) (Or.inl ⟨by rfl, ?_⟩) hS ?_
      rotate_left
      · intro wz
        go_simp
        try with_reducible rfl
      simp only [List.getElem_toArray, List.getElem_cons_succ, List.getElem_cons_zero, Act.put, List.setIfInBounds_toArray, List.set_cons_zero, List.set_cons_succ]
      refine HT.take (i := 11) (oi := _) (v := ?_) rfl (by kernel_rfl) (by kernel_rfl) (by decide) (fun _ _ _ h => h) (Or.inl ⟨by rfl, ?_⟩) hS ?_
      rotate_left
      · intro wz
        go_simp
        try with_reducible rfl
      simp only [List.getElem_toArray, List.getElem_cons_succ, List.getElem_cons_zero, Act.put, List.setIfInBounds_toArray, List.set_cons_zero, List.set_cons_succ]
      refine HT.two 7 13 (o := _) (o' := _) rfl rfl (by kernel_rfl) (by decide) (by decide) (by rfl) (by rfl) ?_ ?_
      · intro K hK
        go_simp
        refine (QMUL_any ngS ngX AS AX DS A1 nS cS dS eS nX cX n1 c1 _ _ (by omega) (by omega) (by omega) (by omega) _ wc.heap.size (Nat.le_refl _) HS9 HXR).mono ?_
        rintro e wn ⟨ng2, A2, n2, c2, D2, d2, e2, rfl, hH2, k2, m2, hbn⟩
        have H2 := Lib.hid hH2
        clear hH2
        clear HS9 HXR
        replace HYR := Lib.hid (HYR.out.to hbn (Nat.le_refl _) hbn.size)
        replace HNR := Lib.hid (HNR.out.to hbn (Nat.le_refl _) hbn.size)
        have HBn := Lib.hid (HBc.out.trans (hbn.mono HBc.out.size))
        have hSn : wn.cell? ⟨g14, 0, none⟩ = some (.bool ngS) ∧ wn.cell? ⟨g14, 1, none⟩ = some (.slice AS nS cS) ∧ wn.cell? ⟨g14, 2, none⟩ = some (.slice DS dS eS) ∧ wn.cell? ⟨g7, 0, none⟩ = some (.bool ngY) ∧ wn.cell? ⟨g7, 1, none⟩ = some (.slice AY nY cY) ∧ wn.cell? ⟨g6, 0, none⟩ = some (.bool ngX) ∧ wn.cell? ⟨g6, 1, none⟩ = some (.slice AX nX cX) ∧ wn.cell? ⟨g5, 0, none⟩ = some (.bool ngN) ∧ wn.cell? ⟨g5, 1, none⟩ = some (.slice AN nN cN) := ⟨(hbn.cell (p := ⟨g14, 0, none⟩) hg_0).trans hS.1, (hbn.cell (p := ⟨g14, 1, none⟩) hg_0).trans hS.2.1, (hbn.cell (p := ⟨g14, 2, none⟩) hg_0).trans hS.2.2.1, (hbn.cell (p := ⟨g7, 0, none⟩) hg_1).trans hS.2.2.2.1, (hbn.cell (p := ⟨g7, 1, none⟩) hg_1).trans hS.2.2.2.2.1, (hbn.cell (p := ⟨g6, 0, none⟩) hg_2).trans hS.2.2.2.2.2.1, (hbn.cell (p := ⟨g6, 1, none⟩) hg_2).trans hS.2.2.2.2.2.2.1, (hbn.cell (p := ⟨g5, 0, none⟩) hg_3).trans hS.2.2.2.2.2.2.2.1, (hbn.cell (p := ⟨g5, 1, none⟩) hg_3).trans hS.2.2.2.2.2.2.2.2⟩
        have hgn_0 := Nat.lt_of_lt_of_le hg_0 hbn.size
        have hgn_1 := Nat.lt_of_lt_of_le hg_1 hbn.size
        have hgn_2 := Nat.lt_of_lt_of_le hg_2 hbn.size
        have hgn_3 := Nat.lt_of_lt_of_le hg_3 hbn.size
        refine hK.out _ _ hSn ?_
        clear hK K hS HBc hg_0 hg_1 hg_2 hg_3
        try simp only [List.getElem_toArray, List.getElem_cons_succ, List.getElem_cons_zero, Act.put, List.setIfInBounds_toArray, List.set_cons_zero, List.set_cons_succ]
        have hS := hSn
        have HBc := HBn
        have hg_0 := hgn_0
        have hg_1 := hgn_1
        have hg_2 := hgn_2
        have hg_3 := hgn_3
        clear hSn HBn hbn hgn_0 hgn_1 hgn_2 hgn_3
        obtain ⟨wc, rfl⟩ : ∃ x : World, x = wn := ⟨_, rfl⟩
        refine HT.two 8 13 (o := _) (o' := _) rfl rfl (by kernel_rfl) (by decide) (by decide) (by rfl) (by rfl) ?_ ?_
        · intro K hK
          go_simp
          refine (QSUB_any ngY ng2 AY A2 A1 D2 nY cY n1 c1 n2 c2 d2 e2 _ _ (by omega) (by omega) (by omega) (by omega) _ wc.heap.size (Nat.le_refl _) HYR H2).mono ?_
          rintro e wn ⟨ng3, A3, n3, c3, D3, d3, e3, rfl, hH3, k3, m3, hbn⟩
          have H3 := Lib.hid hH3
          clear hH3
          clear HYR H2
          replace HNR := Lib.hid (HNR.out.to hbn (Nat.le_refl _) hbn.size)
          have HBn := Lib.hid (HBc.out.trans (hbn.mono HBc.out.size))
          have hSn : wn.cell? ⟨g14, 0, none⟩ = some (.bool ngS) ∧ wn.cell? ⟨g14, 1, none⟩ = some (.slice AS nS cS) ∧ wn.cell? ⟨g14, 2, none⟩ = some (.slice DS dS eS) ∧ wn.cell? ⟨g7, 0, none⟩ = some (.bool ngY) ∧ wn.cell? ⟨g7, 1, none⟩ = some (.slice AY nY cY) ∧ wn.cell? ⟨g6, 0, none⟩ = some (.bool ngX) ∧ wn.cell? ⟨g6, 1, none⟩ = some (.slice AX nX cX) ∧ wn.cell? ⟨g5, 0, none⟩ = some (.bool ngN) ∧ wn.cell? ⟨g5, 1, none⟩ = some (.slice AN nN cN) := ⟨(hbn.cell (p := ⟨g14, 0, none⟩) hg_0).trans hS.1, (hbn.cell (p := ⟨g14, 1, none⟩) hg_0).trans hS.2.1, (hbn.cell (p := ⟨g14, 2, none⟩) hg_0).trans hS.2.2.1, (hbn.cell (p := ⟨g7, 0, none⟩) hg_1).trans hS.2.2.2.1, (hbn.cell (p := ⟨g7, 1, none⟩) hg_1).trans hS.2.2.2.2.1, (hbn.cell (p := ⟨g6, 0, none⟩) hg_2).trans hS.2.2.2.2.2.1, (hbn.cell (p := ⟨g6, 1, none⟩) hg_2).trans hS.2.2.2.2.2.2.1, (hbn.cell (p := ⟨g5, 0, none⟩) hg_3).trans hS.2.2.2.2.2.2.2.1, (hbn.cell (p := ⟨g5, 1, none⟩) hg_3).trans hS.2.2.2.2.2.2.2.2⟩
          have hgn_0 := Nat.lt_of_lt_of_le hg_0 hbn.size
          have hgn_1 := Nat.lt_of_lt_of_le hg_1 hbn.size
          have hgn_2 := Nat.lt_of_lt_of_le hg_2 hbn.size
          have hgn_3 := Nat.lt_of_lt_of_le hg_3 hbn.size
          refine hK.out _ _ hSn ?_
          clear hK K hS HBc hg_0 hg_1 hg_2 hg_3
          try simp only [List.getElem_toArray, List.getElem_cons_succ, List.getElem_cons_zero, Act.put, List.setIfInBounds_toArray, List.set_cons_zero, List.set_cons_succ]
          have hS := hSn
          have HBc := HBn
          have hg_0 := hgn_0
          have hg_1 := hgn_1
          have hg_2 := hgn_2
          have hg_3 := hgn_3
          clear hSn HBn hbn hgn_0 hgn_1 hgn_2 hgn_3
          obtain ⟨wc, rfl⟩ : ∃ x : World, x = wn := ⟨_, rfl⟩
          refine HT.two 12 13 (o := _) (o' := _) rfl rfl (by kernel_rfl) (by decide) (by decide) (by rfl) (by rfl) ?_ ?_
          · intro K hK
            go_simp
            refine (QDIV_any ng3 ngN A3 AN D3 A1 n3 c3 d3 e3 nN cN n1 c1 _ _ (by omega) (by omega) (by omega) (by omega) HNN.out _ wc.heap.size (Nat.le_refl _) H3 HNR).mono ?_
            rintro e wn ⟨ng4, A4, n4, c4, D4, d4, e4, rfl, hH4, k4, m4, hbn⟩
            have H4 := Lib.hid hH4
            clear hH4
            clear HNR H3
            have HBn := Lib.hid (HBc.out.trans (hbn.mono HBc.out.size))
            have hSn : wn.cell? ⟨g14, 0, none⟩ = some (.bool ngS) ∧ wn.cell? ⟨g14, 1, none⟩ = some (.slice AS nS cS) ∧ wn.cell? ⟨g14, 2, none⟩ = some (.slice DS dS eS) ∧ wn.cell? ⟨g7, 0, none⟩ = some (.bool ngY) ∧ wn.cell? ⟨g7, 1, none⟩ = some (.slice AY nY cY) ∧ wn.cell? ⟨g6, 0, none⟩ = some (.bool ngX) ∧ wn.cell? ⟨g6, 1, none⟩ = some (.slice AX nX cX) ∧ wn.cell? ⟨g5, 0, none⟩ = some (.bool ngN) ∧ wn.cell? ⟨g5, 1, none⟩ = some (.slice AN nN cN) := ⟨(hbn.cell (p := ⟨g14, 0, none⟩) hg_0).trans hS.1, (hbn.cell (p := ⟨g14, 1, none⟩) hg_0).trans hS.2.1, (hbn.cell (p := ⟨g14, 2, none⟩) hg_0).trans hS.2.2.1, (hbn.cell (p := ⟨g7, 0, none⟩) hg_1).trans hS.2.2.2.1, (hbn.cell (p := ⟨g7, 1, none⟩) hg_1).trans hS.2.2.2.2.1, (hbn.cell (p := ⟨g6, 0, none⟩) hg_2).trans hS.2.2.2.2.2.1, (hbn.cell (p := ⟨g6, 1, none⟩) hg_2).trans hS.2.2.2.2.2.2.1, (hbn.cell (p := ⟨g5, 0, none⟩) hg_3).trans hS.2.2.2.2.2.2.2.1, (hbn.cell (p := ⟨g5, 1, none⟩) hg_3).trans hS.2.2.2.2.2.2.2.2⟩
            have hgn_0 := Nat.lt_of_lt_of_le hg_0 hbn.size
            have hgn_1 := Nat.lt_of_lt_of_le hg_1 hbn.size
            have hgn_2 := Nat.lt_of_lt_of_le hg_2 hbn.size
            have hgn_3 := Nat.lt_of_lt_of_le hg_3 hbn.size
            refine hK.out _ _ hSn ?_
            clear hK K hS HBc hg_0 hg_1 hg_2 hg_3
            try simp only [List.getElem_toArray, List.getElem_cons_succ, List.getElem_cons_zero, Act.put, List.setIfInBounds_toArray, List.set_cons_zero, List.set_cons_succ]
            have hS := hSn
            have HBc := HBn
            have hg_0 := hgn_0
            have hg_1 := hgn_1
            have hg_2 := hgn_2
            have hg_3 := hgn_3
            clear hSn HBn hbn hgn_0 hgn_1 hgn_2 hgn_3
            obtain ⟨wc, rfl⟩ : ∃ x : World, x = wn := ⟨_, rfl⟩
            refine HT.one (i := 13) (o := _) rfl (by kernel_rfl) (by decide) (by rfl) ?_
            intro K hK
            go_simp
            obtain ⟨wn, g16, hwn, hga9, hHA, hbn0, _⟩ := cell_new0 wc 42 #[.bool false, .slice none 0 0, .slice none 0 0]
            have hbn := hbn0.out
            have HGg16 : Hid (W15.heap.size ≤ g16) := by show _ ≤ _; rw [hga9]; exact HBc.out.size
            rw [← hwn, ← hga9]
            have HA := hHA
            clear hwn hga9 hbn0 hHA
            replace H4 := Lib.hid (H4.out.to hbn (Nat.le_refl _) hbn.size)
            have HBn := Lib.hid (HBc.out.trans (hbn.mono HBc.out.size))
            have hSn : wn.cell? ⟨g14, 0, none⟩ = some (.bool ngS) ∧ wn.cell? ⟨g14, 1, none⟩ = some (.slice AS nS cS) ∧ wn.cell? ⟨g14, 2, none⟩ = some (.slice DS dS eS) ∧ wn.cell? ⟨g7, 0, none⟩ = some (.bool ngY) ∧ wn.cell? ⟨g7, 1, none⟩ = some (.slice AY nY cY) ∧ wn.cell? ⟨g6, 0, none⟩ = some (.bool ngX) ∧ wn.cell? ⟨g6, 1, none⟩ = some (.slice AX nX cX) ∧ wn.cell? ⟨g5, 0, none⟩ = some (.bool ngN) ∧ wn.cell? ⟨g5, 1, none⟩ = some (.slice AN nN cN) := ⟨(hbn.cell (p := ⟨g14, 0, none⟩) hg_0).trans hS.1, (hbn.cell (p := ⟨g14, 1, none⟩) hg_0).trans hS.2.1, (hbn.cell (p := ⟨g14, 2, none⟩) hg_0).trans hS.2.2.1, (hbn.cell (p := ⟨g7, 0, none⟩) hg_1).trans hS.2.2.2.1, (hbn.cell (p := ⟨g7, 1, none⟩) hg_1).trans hS.2.2.2.2.1, (hbn.cell (p := ⟨g6, 0, none⟩) hg_2).trans hS.2.2.2.2.2.1, (hbn.cell (p := ⟨g6, 1, none⟩) hg_2).trans hS.2.2.2.2.2.2.1, (hbn.cell (p := ⟨g5, 0, none⟩) hg_3).trans hS.2.2.2.2.2.2.2.1, (hbn.cell (p := ⟨g5, 1, none⟩) hg_3).trans hS.2.2.2.2.2.2.2.2⟩
            have hgn_0 := Nat.lt_of_lt_of_le hg_0 hbn.size
            have hgn_1 := Nat.lt_of_lt_of_le hg_1 hbn.size
            have hgn_2 := Nat.lt_of_lt_of_le hg_2 hbn.size
            have hgn_3 := Nat.lt_of_lt_of_le hg_3 hbn.size
            refine hK.out _ _ hSn ?_
            clear hK K hS HBc hg_0 hg_1 hg_2 hg_3
            try simp only [List.getElem_toArray, List.getElem_cons_succ, List.getElem_cons_zero, Act.put, List.setIfInBounds_toArray, List.set_cons_zero, List.set_cons_succ]
            have hS := hSn
            have HBc := HBn
            have hg_0 := hgn_0
            have hg_1 := hgn_1
            have hg_2 := hgn_2
            have hg_3 := hgn_3
            clear hSn HBn hbn hgn_0 hgn_1 hgn_2 hgn_3
            obtain ⟨wc, rfl⟩ : ∃ x : World, x = wn := ⟨_, rfl⟩
            obtain ⟨r0, r1, r2, f0, f1, f2⟩ := three_cells HA.out
            refine HT.done (by kernel_rfl) ?_
            clear hS
            simp only [List.drop_succ_cons, List.drop_zero]
            have HQ6 := Lib.hid (QBox.store (k := 10000) (m := 10000) HA.out H4.out (by omega) (by omega))
            have HBT := Lib.hid (box3_below (v0 := .bool ng4) (v1 := .slice A4 n4 c4) (v2 := .slice D4 d4 e4) HBc.out HGg16.out)
            go_wp2_with fail
            go_meet
            exact ⟨g16, rfl, HQ6, HBT⟩
            -- H4 HA
          · intro K hK
            go_simp
            obtain ⟨wn, g16, hwn, hga9, hHA, hbn0, _⟩ := cell_new0 wc 42 #[.bool false, .slice none 0 0, .slice none 0 0]
            have hbn := hbn0.out
            have HGg16 : Hid (W15.heap.size ≤ g16) := by show _ ≤ _; rw [hga9]; exact HBc.out.size
            rw [← hwn, ← hga9]
            have HA := hHA
            clear hwn hga9 hbn0 hHA
            replace HNR := Lib.hid (HNR.out.to hbn (Nat.le_refl _) hbn.size)
            replace H3 := Lib.hid (H3.out.to hbn (Nat.le_refl _) hbn.size)
            have HBn := Lib.hid (HBc.out.trans (hbn.mono HBc.out.size))
            have hSn : wn.cell? ⟨g14, 0, none⟩ = some (.bool ngS) ∧ wn.cell? ⟨g14, 1, none⟩ = some (.slice AS nS cS) ∧ wn.cell? ⟨g14, 2, none⟩ = some (.slice DS dS eS) ∧ wn.cell? ⟨g7, 0, none⟩ = some (.bool ngY) ∧ wn.cell? ⟨g7, 1, none⟩ = some (.slice AY nY cY) ∧ wn.cell? ⟨g6, 0, none⟩ = some (.bool ngX) ∧ wn.cell? ⟨g6, 1, none⟩ = some (.slice AX nX cX) ∧ wn.cell? ⟨g5, 0, none⟩ = some (.bool ngN) ∧ wn.cell? ⟨g5, 1, none⟩ = some (.slice AN nN cN) := ⟨(hbn.cell (p := ⟨g14, 0, none⟩) hg_0).trans hS.1, (hbn.cell (p := ⟨g14, 1, none⟩) hg_0).trans hS.2.1, (hbn.cell (p := ⟨g14, 2, none⟩) hg_0).trans hS.2.2.1, (hbn.cell (p := ⟨g7, 0, none⟩) hg_1).trans hS.2.2.2.1, (hbn.cell (p := ⟨g7, 1, none⟩) hg_1).trans hS.2.2.2.2.1, (hbn.cell (p := ⟨g6, 0, none⟩) hg_2).trans hS.2.2.2.2.2.1, (hbn.cell (p := ⟨g6, 1, none⟩) hg_2).trans hS.2.2.2.2.2.2.1, (hbn.cell (p := ⟨g5, 0, none⟩) hg_3).trans hS.2.2.2.2.2.2.2.1, (hbn.cell (p := ⟨g5, 1, none⟩) hg_3).trans hS.2.2.2.2.2.2.2.2⟩
            have hgn_0 := Nat.lt_of_lt_of_le hg_0 hbn.size
            have hgn_1 := Nat.lt_of_lt_of_le hg_1 hbn.size
            have hgn_2 := Nat.lt_of_lt_of_le hg_2 hbn.size
            have hgn_3 := Nat.lt_of_lt_of_le hg_3 hbn.size
            refine hK.out _ _ hSn ?_
            clear hK K hS HBc hg_0 hg_1 hg_2 hg_3
            try simp only [List.getElem_toArray, List.getElem_cons_succ, List.getElem_cons_zero, Act.put, List.setIfInBounds_toArray, List.set_cons_zero, List.set_cons_succ]
            have hS := hSn
            have HBc := HBn
            have hg_0 := hgn_0
            have hg_1 := hgn_1
            have hg_2 := hgn_2
            have hg_3 := hgn_3
            clear hSn HBn hbn hgn_0 hgn_1 hgn_2 hgn_3
            obtain ⟨wc, rfl⟩ : ∃ x : World, x = wn := ⟨_, rfl⟩
            refine HT.one (i := 12) (o := _) rfl (by kernel_rfl) (by decide) (by rfl) ?_
            intro K hK
            go_simp
            refine (QDIV_any ng3 ngN A3 AN D3 A1 n3 c3 d3 e3 nN cN n1 c1 _ _ (by omega) (by omega) (by omega) (by omega) HNN.out _ wc.heap.size (Nat.le_refl _) H3 HNR).mono ?_
            rintro e wn ⟨ng4, A4, n4, c4, D4, d4, e4, rfl, hH4, k4, m4, hbn⟩
            have H4 := Lib.hid hH4
            clear hH4
            clear HNR H3
            replace HA := Lib.hid ((hbn.block g16 (blk_lt HA.out)).trans HA.out)
            have HBn := Lib.hid (HBc.out.trans (hbn.mono HBc.out.size))
            have hSn : wn.cell? ⟨g14, 0, none⟩ = some (.bool ngS) ∧ wn.cell? ⟨g14, 1, none⟩ = some (.slice AS nS cS) ∧ wn.cell? ⟨g14, 2, none⟩ = some (.slice DS dS eS) ∧ wn.cell? ⟨g7, 0, none⟩ = some (.bool ngY) ∧ wn.cell? ⟨g7, 1, none⟩ = some (.slice AY nY cY) ∧ wn.cell? ⟨g6, 0, none⟩ = some (.bool ngX) ∧ wn.cell? ⟨g6, 1, none⟩ = some (.slice AX nX cX) ∧ wn.cell? ⟨g5, 0, none⟩ = some (.bool ngN) ∧ wn.cell? ⟨g5, 1, none⟩ = some (.slice AN nN cN) := ⟨(hbn.cell (p := ⟨g14, 0, none⟩) hg_0).trans hS.1, (hbn.cell (p := ⟨g14, 1, none⟩) hg_0).trans hS.2.1, (hbn.cell (p := ⟨g14, 2, none⟩) hg_0).trans hS.2.2.1, (hbn.cell (p := ⟨g7, 0, none⟩) hg_1).trans hS.2.2.2.1, (hbn.cell (p := ⟨g7, 1, none⟩) hg_1).trans hS.2.2.2.2.1, (hbn.cell (p := ⟨g6, 0, none⟩) hg_2).trans hS.2.2.2.2.2.1, (hbn.cell (p := ⟨g6, 1, none⟩) hg_2).trans hS.2.2.2.2.2.2.1, (hbn.cell (p := ⟨g5, 0, none⟩) hg_3).trans hS.2.2.2.2.2.2.2.1, (hbn.cell (p := ⟨g5, 1, none⟩) hg_3).trans hS.2.2.2.2.2.2.2.2⟩
            have hgn_0 := Nat.lt_of_lt_of_le hg_0 hbn.size
            have hgn_1 := Nat.lt_of_lt_of_le hg_1 hbn.size
            have hgn_2 := Nat.lt_of_lt_of_le hg_2 hbn.size
            have hgn_3 := Nat.lt_of_lt_of_le hg_3 hbn.size
            refine hK.out _ _ hSn ?_
            clear hK K hS HBc hg_0 hg_1 hg_2 hg_3
            try simp only [List.getElem_toArray, List.getElem_cons_succ, List.getElem_cons_zero, Act.put, List.setIfInBounds_toArray, List.set_cons_zero, List.set_cons_succ]
            have hS := hSn
            have HBc := HBn
            have hg_0 := hgn_0
            have hg_1 := hgn_1
            have hg_2 := hgn_2
            have hg_3 := hgn_3
            clear hSn HBn hbn hgn_0 hgn_1 hgn_2 hgn_3
            obtain ⟨wc, rfl⟩ : ∃ x : World, x = wn := ⟨_, rfl⟩
            obtain ⟨r0, r1, r2, f0, f1, f2⟩ := three_cells HA.out
            refine HT.done (by kernel_rfl) ?_
            clear hS
            simp only [List.drop_succ_cons, List.drop_zero]
            have HQ6 := Lib.hid (QBox.store (k := 10000) (m := 10000) HA.out H4.out (by omega) (by omega))
            have HBT := Lib.hid (box3_below (v0 := .bool ng4) (v1 := .slice A4 n4 c4) (v2 := .slice D4 d4 e4) HBc.out HGg16.out)
            go_wp2_with fail
            go_meet
            exact ⟨g16, rfl, HQ6, HBT⟩
            -- H4 HA
        · intro K hK
          go_simp
          obtain ⟨wn, g16, hwn, hga9, hHA, hbn0, _⟩ := cell_new0 wc 42 #[.bool false, .slice none 0 0, .slice none 0 0]
          have hbn := hbn0.out
          have HGg16 : Hid (W15.heap.size ≤ g16) := by show _ ≤ _; rw [hga9]; exact HBc.out.size
          rw [← hwn, ← hga9]
          have HA := hHA
          clear hwn hga9 hbn0 hHA
          replace HYR := Lib.hid (HYR.out.to hbn (Nat.le_refl _) hbn.size)
          replace HNR := Lib.hid (HNR.out.to hbn (Nat.le_refl _) hbn.size)
          replace H2 := Lib.hid (H2.out.to hbn (Nat.le_refl _) hbn.size)
          have HBn := Lib.hid (HBc.out.trans (hbn.mono HBc.out.size))
          have hSn : wn.cell? ⟨g14, 0, none⟩ = some (.bool ngS) ∧ wn.cell? ⟨g14, 1, none⟩ = some (.slice AS nS cS) ∧ wn.cell? ⟨g14, 2, none⟩ = some (.slice DS dS eS) ∧ wn.cell? ⟨g7, 0, none⟩ = some (.bool ngY) ∧ wn.cell? ⟨g7, 1, none⟩ = some (.slice AY nY cY) ∧ wn.cell? ⟨g6, 0, none⟩ = some (.bool ngX) ∧ wn.cell? ⟨g6, 1, none⟩ = some (.slice AX nX cX) ∧ wn.cell? ⟨g5, 0, none⟩ = some (.bool ngN) ∧ wn.cell? ⟨g5, 1, none⟩ = some (.slice AN nN cN) := ⟨(hbn.cell (p := ⟨g14, 0, none⟩) hg_0).trans hS.1, (hbn.cell (p := ⟨g14, 1, none⟩) hg_0).trans hS.2.1, (hbn.cell (p := ⟨g14, 2, none⟩) hg_0).trans hS.2.2.1, (hbn.cell (p := ⟨g7, 0, none⟩) hg_1).trans hS.2.2.2.1, (hbn.cell (p := ⟨g7, 1, none⟩) hg_1).trans hS.2.2.2.2.1, (hbn.cell (p := ⟨g6, 0, none⟩) hg_2).trans hS.2.2.2.2.2.1, (hbn.cell (p := ⟨g6, 1, none⟩) hg_2).trans hS.2.2.2.2.2.2.1, (hbn.cell (p := ⟨g5, 0, none⟩) hg_3).trans hS.2.2.2.2.2.2.2.1, (hbn.cell (p := ⟨g5, 1, none⟩) hg_3).trans hS.2.2.2.2.2.2.2.2⟩
          have hgn_0 := Nat.lt_of_lt_of_le hg_0 hbn.size
          have hgn_1 := Nat.lt_of_lt_of_le hg_1 hbn.size
          have hgn_2 := Nat.lt_of_lt_of_le hg_2 hbn.size
          have hgn_3 := Nat.lt_of_lt_of_le hg_3 hbn.size
          refine hK.out _ _ hSn ?_
          clear hK K hS HBc hg_0 hg_1 hg_2 hg_3
          try simp only [List.getElem_toArray, List.getElem_cons_succ, List.getElem_cons_zero, Act.put, List.setIfInBounds_toArray, List.set_cons_zero, List.set_cons_succ]
          have hS := hSn
          have HBc := HBn
          have hg_0 := hgn_0
          have hg_1 := hgn_1
          have hg_2 := hgn_2
          have hg_3 := hgn_3
          clear hSn HBn hbn hgn_0 hgn_1 hgn_2 hgn_3
          obtain ⟨wc, rfl⟩ : ∃ x : World, x = wn := ⟨_, rfl⟩
          refine HT.one (i := 8) (o := _) rfl (by kernel_rfl) (by decide) (by rfl) ?_
          intro K hK
          go_simp
          refine (QSUB_any ngY ng2 AY A2 A1 D2 nY cY n1 c1 n2 c2 d2 e2 _ _ (by omega) (by omega) (by omega) (by omega) _ wc.heap.size (Nat.le_refl _) HYR H2).mono ?_
          rintro e wn ⟨ng3, A3, n3, c3, D3, d3, e3, rfl, hH3, k3, m3, hbn⟩
          have H3 := Lib.hid hH3
          clear hH3
          clear HYR H2
          replace HNR := Lib.hid (HNR.out.to hbn (Nat.le_refl _) hbn.size)
          replace HA := Lib.hid ((hbn.block g16 (blk_lt HA.out)).trans HA.out)
          have HBn := Lib.hid (HBc.out.trans (hbn.mono HBc.out.size))
          have hSn : wn.cell? ⟨g14, 0, none⟩ = some (.bool ngS) ∧ wn.cell? ⟨g14, 1, none⟩ = some (.slice AS nS cS) ∧ wn.cell? ⟨g14, 2, none⟩ = some (.slice DS dS eS) ∧ wn.cell? ⟨g7, 0, none⟩ = some (.bool ngY) ∧ wn.cell? ⟨g7, 1, none⟩ = some (.slice AY nY cY) ∧ wn.cell? ⟨g6, 0, none⟩ = some (.bool ngX) ∧ wn.cell? ⟨g6, 1, none⟩ = some (.slice AX nX cX) ∧ wn.cell? ⟨g5, 0, none⟩ = some (.bool ngN) ∧ wn.cell? ⟨g5, 1, none⟩ = some (.slice AN nN cN) := ⟨(hbn.cell (p := ⟨g14, 0, none⟩) hg_0).trans hS.1, (hbn.cell (p := ⟨g14, 1, none⟩) hg_0).trans hS.2.1, (hbn.cell (p := ⟨g14, 2, none⟩) hg_0).trans hS.2.2.1, (hbn.cell (p := ⟨g7, 0, none⟩) hg_1).trans hS.2.2.2.1, (hbn.cell (p := ⟨g7, 1, none⟩) hg_1).trans hS.2.2.2.2.1, (hbn.cell (p := ⟨g6, 0, none⟩) hg_2).trans hS.2.2.2.2.2.1, (hbn.cell (p := ⟨g6, 1, none⟩) hg_2).trans hS.2.2.2.2.2.2.1, (hbn.cell (p := ⟨g5, 0, none⟩) hg_3).trans hS.2.2.2.2.2.2.2.1, (hbn.cell (p := ⟨g5, 1, none⟩) hg_3).trans hS.2.2.2.2.2.2.2.2⟩
          have hgn_0 := Nat.lt_of_lt_of_le hg_0 hbn.size
          have hgn_1 := Nat.lt_of_lt_of_le hg_1 hbn.size
          have hgn_2 := Nat.lt_of_lt_of_le hg_2 hbn.size
          have hgn_3 := Nat.lt_of_lt_of_le hg_3 hbn.size
          refine hK.out _ _ hSn ?_
          clear hK K hS HBc hg_0 hg_1 hg_2 hg_3
          try simp only [List.getElem_toArray, List.getElem_cons_succ, List.getElem_cons_zero, Act.put, List.setIfInBounds_toArray, List.set_cons_zero, List.set_cons_succ]
          have hS := hSn
          have HBc := HBn
          have hg_0 := hgn_0
          have hg_1 := hgn_1
          have hg_2 := hgn_2
          have hg_3 := hgn_3
          clear hSn HBn hbn hgn_0 hgn_1 hgn_2 hgn_3
          obtain ⟨wc, rfl⟩ : ∃ x : World, x = wn := ⟨_, rfl⟩
          refine HT.one (i := 12) (o := _) rfl (by kernel_rfl) (by decide) (by rfl) ?_
          intro K hK
          go_simp
          refine (QDIV_any ng3 ngN A3 AN D3 A1 n3 c3 d3 e3 nN cN n1 c1 _ _ (by omega) (by omega) (by omega) (by omega) HNN.out _ wc.heap.size (Nat.le_refl _) H3 HNR).mono ?_
          rintro e wn ⟨ng4, A4, n4, c4, D4, d4, e4, rfl, hH4, k4, m4, hbn⟩
          have H4 := Lib.hid hH4
          clear hH4
          clear HNR H3
          replace HA := Lib.hid ((hbn.block g16 (blk_lt HA.out)).trans HA.out)
          have HBn := Lib.hid (HBc.out.trans (hbn.mono HBc.out.size))
          have hSn : wn.cell? ⟨g14, 0, none⟩ = some (.bool ngS) ∧ wn.cell? ⟨g14, 1, none⟩ = some (.slice AS nS cS) ∧ wn.cell? ⟨g14, 2, none⟩ = some (.slice DS dS eS) ∧ wn.cell? ⟨g7, 0, none⟩ = some (.bool ngY) ∧ wn.cell? ⟨g7, 1, none⟩ = some (.slice AY nY cY) ∧ wn.cell? ⟨g6, 0, none⟩ = some (.bool ngX) ∧ wn.cell? ⟨g6, 1, none⟩ = some (.slice AX nX cX) ∧ wn.cell? ⟨g5, 0, none⟩ = some (.bool ngN) ∧ wn.cell? ⟨g5, 1, none⟩ = some (.slice AN nN cN) := ⟨(hbn.cell (p := ⟨g14, 0, none⟩) hg_0).trans hS.1, (hbn.cell (p := ⟨g14, 1, none⟩) hg_0).trans hS.2.1, (hbn.cell (p := ⟨g14, 2, none⟩) hg_0).trans hS.2.2.1, (hbn.cell (p := ⟨g7, 0, none⟩) hg_1).trans hS.2.2.2.1, (hbn.cell (p := ⟨g7, 1, none⟩) hg_1).trans hS.2.2.2.2.1, (hbn.cell (p := ⟨g6, 0, none⟩) hg_2).trans hS.2.2.2.2.2.1, (hbn.cell (p := ⟨g6, 1, none⟩) hg_2).trans hS.2.2.2.2.2.2.1, (hbn.cell (p := ⟨g5, 0, none⟩) hg_3).trans hS.2.2.2.2.2.2.2.1, (hbn.cell (p := ⟨g5, 1, none⟩) hg_3).trans hS.2.2.2.2.2.2.2.2⟩
          have hgn_0 := Nat.lt_of_lt_of_le hg_0 hbn.size
          have hgn_1 := Nat.lt_of_lt_of_le hg_1 hbn.size
          have hgn_2 := Nat.lt_of_lt_of_le hg_2 hbn.size
          have hgn_3 := Nat.lt_of_lt_of_le hg_3 hbn.size
          refine hK.out _ _ hSn ?_
          clear hK K hS HBc hg_0 hg_1 hg_2 hg_3
          try simp only [List.getElem_toArray, List.getElem_cons_succ, List.getElem_cons_zero, Act.put, List.setIfInBounds_toArray, List.set_cons_zero, List.set_cons_succ]
          have hS := hSn
          have HBc := HBn
          have hg_0 := hgn_0
          have hg_1 := hgn_1
          have hg_2 := hgn_2
          have hg_3 := hgn_3
          clear hSn HBn hbn hgn_0 hgn_1 hgn_2 hgn_3
          obtain ⟨wc, rfl⟩ : ∃ x : World, x = wn := ⟨_, rfl⟩
          obtain ⟨r0, r1, r2, f0, f1, f2⟩ := three_cells HA.out
          refine HT.done (by kernel_rfl) ?_
          clear hS
          simp only [List.drop_succ_cons, List.drop_zero]
          have HQ6 := Lib.hid (QBox.store (k := 10000) (m := 10000) HA.out H4.out (by omega) (by omega))
          have HBT := Lib.hid (box3_below (v0 := .bool ng4) (v1 := .slice A4 n4 c4) (v2 := .slice D4 d4 e4) HBc.out HGg16.out)
          go_wp2_with fail
          go_meet
          exact ⟨g16, rfl, HQ6, HBT⟩
          -- H4 HA
      · intro K hK
        go_simp
        obtain ⟨wn, g16, hwn, hga9, hHA, hbn0, _⟩ := cell_new0 wc 42 #[.bool false, .slice none 0 0, .slice none 0 0]
        have hbn := hbn0.out
        have HGg16 : Hid (W15.heap.size ≤ g16) := by show _ ≤ _; rw [hga9]; exact HBc.out.size
        rw [← hwn, ← hga9]
        have HA := hHA
        clear hwn hga9 hbn0 hHA
        replace HS9 := Lib.hid (HS9.out.to hbn (Nat.le_refl _) hbn.size)
        replace HYR := Lib.hid (HYR.out.to hbn (Nat.le_refl _) hbn.size)
        replace HXR := Lib.hid (HXR.out.to hbn (Nat.le_refl _) hbn.size)
        replace HNR := Lib.hid (HNR.out.to hbn (Nat.le_refl _) hbn.size)
        have HBn := Lib.hid (HBc.out.trans (hbn.mono HBc.out.size))
        have hSn : wn.cell? ⟨g14, 0, none⟩ = some (.bool ngS) ∧ wn.cell? ⟨g14, 1, none⟩ = some (.slice AS nS cS) ∧ wn.cell? ⟨g14, 2, none⟩ = some (.slice DS dS eS) ∧ wn.cell? ⟨g7, 0, none⟩ = some (.bool ngY) ∧ wn.cell? ⟨g7, 1, none⟩ = some (.slice AY nY cY) ∧ wn.cell? ⟨g6, 0, none⟩ = some (.bool ngX) ∧ wn.cell? ⟨g6, 1, none⟩ = some (.slice AX nX cX) ∧ wn.cell? ⟨g5, 0, none⟩ = some (.bool ngN) ∧ wn.cell? ⟨g5, 1, none⟩ = some (.slice AN nN cN) := ⟨(hbn.cell (p := ⟨g14, 0, none⟩) hg_0).trans hS.1, (hbn.cell (p := ⟨g14, 1, none⟩) hg_0).trans hS.2.1, (hbn.cell (p := ⟨g14, 2, none⟩) hg_0).trans hS.2.2.1, (hbn.cell (p := ⟨g7, 0, none⟩) hg_1).trans hS.2.2.2.1, (hbn.cell (p := ⟨g7, 1, none⟩) hg_1).trans hS.2.2.2.2.1, (hbn.cell (p := ⟨g6, 0, none⟩) hg_2).trans hS.2.2.2.2.2.1, (hbn.cell (p := ⟨g6, 1, none⟩) hg_2).trans hS.2.2.2.2.2.2.1, (hbn.cell (p := ⟨g5, 0, none⟩) hg_3).trans hS.2.2.2.2.2.2.2.1, (hbn.cell (p := ⟨g5, 1, none⟩) hg_3).trans hS.2.2.2.2.2.2.2.2⟩
        have hgn_0 := Nat.lt_of_lt_of_le hg_0 hbn.size
        have hgn_1 := Nat.lt_of_lt_of_le hg_1 hbn.size
        have hgn_2 := Nat.lt_of_lt_of_le hg_2 hbn.size
        have hgn_3 := Nat.lt_of_lt_of_le hg_3 hbn.size
        refine hK.out _ _ hSn ?_
        clear hK K hS HBc hg_0 hg_1 hg_2 hg_3
        try simp only [List.getElem_toArray, List.getElem_cons_succ, List.getElem_cons_zero, Act.put, List.setIfInBounds_toArray, List.set_cons_zero, List.set_cons_succ]
        have hS := hSn
        have HBc := HBn
        have hg_0 := hgn_0
        have hg_1 := hgn_1
        have hg_2 := hgn_2
        have hg_3 := hgn_3
        clear hSn HBn hbn hgn_0 hgn_1 hgn_2 hgn_3
        obtain ⟨wc, rfl⟩ : ∃ x : World, x = wn := ⟨_, rfl⟩
        refine HT.one (i := 7) (o := _) rfl (by kernel_rfl) (by decide) (by rfl) ?_
        intro K hK
        go_simp
        refine (QMUL_any ngS ngX AS AX DS A1 nS cS dS eS nX cX n1 c1 _ _ (by omega) (by omega) (by omega) (by omega) _ wc.heap.size (Nat.le_refl _) HS9 HXR).mono ?_
        rintro e wn ⟨ng2, A2, n2, c2, D2, d2, e2, rfl, hH2, k2, m2, hbn⟩
        have H2 := Lib.hid hH2
        clear hH2
        clear HS9 HXR
        replace HYR := Lib.hid (HYR.out.to hbn (Nat.le_refl _) hbn.size)
        replace HNR := Lib.hid (HNR.out.to hbn (Nat.le_refl _) hbn.size)
        replace HA := Lib.hid ((hbn.block g16 (blk_lt HA.out)).trans HA.out)
        have HBn := Lib.hid (HBc.out.trans (hbn.mono HBc.out.size))
        have hSn : wn.cell? ⟨g14, 0, none⟩ = some (.bool ngS) ∧ wn.cell? ⟨g14, 1, none⟩ = some (.slice AS nS cS) ∧ wn.cell? ⟨g14, 2, none⟩ = some (.slice DS dS eS) ∧ wn.cell? ⟨g7, 0, none⟩ = some (.bool ngY) ∧ wn.cell? ⟨g7, 1, none⟩ = some (.slice AY nY cY) ∧ wn.cell? ⟨g6, 0, none⟩ = some (.bool ngX) ∧ wn.cell? ⟨g6, 1, none⟩ = some (.slice AX nX cX) ∧ wn.cell? ⟨g5, 0, none⟩ = some (.bool ngN) ∧ wn.cell? ⟨g5, 1, none⟩ = some (.slice AN nN cN) := ⟨(hbn.cell (p := ⟨g14, 0, none⟩) hg_0).trans hS.1, (hbn.cell (p := ⟨g14, 1, none⟩) hg_0).trans hS.2.1, (hbn.cell (p := ⟨g14, 2, none⟩) hg_0).trans hS.2.2.1, (hbn.cell (p := ⟨g7, 0, none⟩) hg_1).trans hS.2.2.2.1, (hbn.cell (p := ⟨g7, 1, none⟩) hg_1).trans hS.2.2.2.2.1, (hbn.cell (p := ⟨g6, 0, none⟩) hg_2).trans hS.2.2.2.2.2.1, (hbn.cell (p := ⟨g6, 1, none⟩) hg_2).trans hS.2.2.2.2.2.2.1, (hbn.cell (p := ⟨g5, 0, none⟩) hg_3).trans hS.2.2.2.2.2.2.2.1, (hbn.cell (p := ⟨g5, 1, none⟩) hg_3).trans hS.2.2.2.2.2.2.2.2⟩
        have hgn_0 := Nat.lt_of_lt_of_le hg_0 hbn.size
        have hgn_1 := Nat.lt_of_lt_of_le hg_1 hbn.size
        have hgn_2 := Nat.lt_of_lt_of_le hg_2 hbn.size
        have hgn_3 := Nat.lt_of_lt_of_le hg_3 hbn.size
        refine hK.out _ _ hSn ?_
        clear hK K hS HBc hg_0 hg_1 hg_2 hg_3
        try simp only [List.getElem_toArray, List.getElem_cons_succ, List.getElem_cons_zero, Act.put, List.setIfInBounds_toArray, List.set_cons_zero, List.set_cons_succ]
        have hS := hSn
        have HBc := HBn
        have hg_0 := hgn_0
        have hg_1 := hgn_1
        have hg_2 := hgn_2
        have hg_3 := hgn_3
        clear hSn HBn hbn hgn_0 hgn_1 hgn_2 hgn_3
        obtain ⟨wc, rfl⟩ : ∃ x : World, x = wn := ⟨_, rfl⟩
        refine HT.one (i := 8) (o := _) rfl (by kernel_rfl) (by decide) (by rfl) ?_
        intro K hK
        go_simp
        refine (QSUB_any ngY ng2 AY A2 A1 D2 nY cY n1 c1 n2 c2 d2 e2 _ _ (by omega) (by omega) (by omega) (by omega) _ wc.heap.size (Nat.le_refl _) HYR H2).mono ?_
        rintro e wn ⟨ng3, A3, n3, c3, D3, d3, e3, rfl, hH3, k3, m3, hbn⟩
        have H3 := Lib.hid hH3
        clear hH3
        clear HYR H2
        replace HNR := Lib.hid (HNR.out.to hbn (Nat.le_refl _) hbn.size)
        replace HA := Lib.hid ((hbn.block g16 (blk_lt HA.out)).trans HA.out)
        have HBn := Lib.hid (HBc.out.trans (hbn.mono HBc.out.size))
        have hSn : wn.cell? ⟨g14, 0, none⟩ = some (.bool ngS) ∧ wn.cell? ⟨g14, 1, none⟩ = some (.slice AS nS cS) ∧ wn.cell? ⟨g14, 2, none⟩ = some (.slice DS dS eS) ∧ wn.cell? ⟨g7, 0, none⟩ = some (.bool ngY) ∧ wn.cell? ⟨g7, 1, none⟩ = some (.slice AY nY cY) ∧ wn.cell? ⟨g6, 0, none⟩ = some (.bool ngX) ∧ wn.cell? ⟨g6, 1, none⟩ = some (.slice AX nX cX) ∧ wn.cell? ⟨g5, 0, none⟩ = some (.bool ngN) ∧ wn.cell? ⟨g5, 1, none⟩ = some (.slice AN nN cN) := ⟨(hbn.cell (p := ⟨g14, 0, none⟩) hg_0).trans hS.1, (hbn.cell (p := ⟨g14, 1, none⟩) hg_0).trans hS.2.1, (hbn.cell (p := ⟨g14, 2, none⟩) hg_0).trans hS.2.2.1, (hbn.cell (p := ⟨g7, 0, none⟩) hg_1).trans hS.2.2.2.1, (hbn.cell (p := ⟨g7, 1, none⟩) hg_1).trans hS.2.2.2.2.1, (hbn.cell (p := ⟨g6, 0, none⟩) hg_2).trans hS.2.2.2.2.2.1, (hbn.cell (p := ⟨g6, 1, none⟩) hg_2).trans hS.2.2.2.2.2.2.1, (hbn.cell (p := ⟨g5, 0, none⟩) hg_3).trans hS.2.2.2.2.2.2.2.1, (hbn.cell (p := ⟨g5, 1, none⟩) hg_3).trans hS.2.2.2.2.2.2.2.2⟩
        have hgn_0 := Nat.lt_of_lt_of_le hg_0 hbn.size
        have hgn_1 := Nat.lt_of_lt_of_le hg_1 hbn.size
        have hgn_2 := Nat.lt_of_lt_of_le hg_2 hbn.size
        have hgn_3 := Nat.lt_of_lt_of_le hg_3 hbn.size
        refine hK.out _ _ hSn ?_
        clear hK K hS HBc hg_0 hg_1 hg_2 hg_3
        try simp only [List.getElem_toArray, List.getElem_cons_succ, List.getElem_cons_zero, Act.put, List.setIfInBounds_toArray, List.set_cons_zero, List.set_cons_succ]
        have hS := hSn
        have HBc := HBn
        have hg_0 := hgn_0
        have hg_1 := hgn_1
        have hg_2 := hgn_2
        have hg_3 := hgn_3
        clear hSn HBn hbn hgn_0 hgn_1 hgn_2 hgn_3
        obtain ⟨wc, rfl⟩ : ∃ x : World, x = wn := ⟨_, rfl⟩
        refine HT.one (i := 12) (o := _) rfl (by kernel_rfl) (by decide) (by rfl) ?_
        intro K hK
        go_simp
        refine (QDIV_any ng3 ngN A3 AN D3 A1 n3 c3 d3 e3 nN cN n1 c1 _ _ (by omega) (by omega) (by omega) (by omega) HNN.out _ wc.heap.size (Nat.le_refl _) H3 HNR).mono ?_
        rintro e wn ⟨ng4, A4, n4, c4, D4, d4, e4, rfl, hH4, k4, m4, hbn⟩
        have H4 := Lib.hid hH4
        clear hH4
        clear HNR H3
        replace HA := Lib.hid ((hbn.block g16 (blk_lt HA.out)).trans HA.out)
        have HBn := Lib.hid (HBc.out.trans (hbn.mono HBc.out.size))
        have hSn : wn.cell? ⟨g14, 0, none⟩ = some (.bool ngS) ∧ wn.cell? ⟨g14, 1, none⟩ = some (.slice AS nS cS) ∧ wn.cell? ⟨g14, 2, none⟩ = some (.slice DS dS eS) ∧ wn.cell? ⟨g7, 0, none⟩ = some (.bool ngY) ∧ wn.cell? ⟨g7, 1, none⟩ = some (.slice AY nY cY) ∧ wn.cell? ⟨g6, 0, none⟩ = some (.bool ngX) ∧ wn.cell? ⟨g6, 1, none⟩ = some (.slice AX nX cX) ∧ wn.cell? ⟨g5, 0, none⟩ = some (.bool ngN) ∧ wn.cell? ⟨g5, 1, none⟩ = some (.slice AN nN cN) := ⟨(hbn.cell (p := ⟨g14, 0, none⟩) hg_0).trans hS.1, (hbn.cell (p := ⟨g14, 1, none⟩) hg_0).trans hS.2.1, (hbn.cell (p := ⟨g14, 2, none⟩) hg_0).trans hS.2.2.1, (hbn.cell (p := ⟨g7, 0, none⟩) hg_1).trans hS.2.2.2.1, (hbn.cell (p := ⟨g7, 1, none⟩) hg_1).trans hS.2.2.2.2.1, (hbn.cell (p := ⟨g6, 0, none⟩) hg_2).trans hS.2.2.2.2.2.1, (hbn.cell (p := ⟨g6, 1, none⟩) hg_2).trans hS.2.2.2.2.2.2.1, (hbn.cell (p := ⟨g5, 0, none⟩) hg_3).trans hS.2.2.2.2.2.2.2.1, (hbn.cell (p := ⟨g5, 1, none⟩) hg_3).trans hS.2.2.2.2.2.2.2.2⟩
        have hgn_0 := Nat.lt_of_lt_of_le hg_0 hbn.size
        have hgn_1 := Nat.lt_of_lt_of_le hg_1 hbn.size
        have hgn_2 := Nat.lt_of_lt_of_le hg_2 hbn.size
        have hgn_3 := Nat.lt_of_lt_of_le hg_3 hbn.size
        refine hK.out _ _ hSn ?_
        clear hK K hS HBc hg_0 hg_1 hg_2 hg_3
        try simp only [List.getElem_toArray, List.getElem_cons_succ, List.getElem_cons_zero, Act.put, List.setIfInBounds_toArray, List.set_cons_zero, List.set_cons_succ]
        have hS := hSn
        have HBc := HBn
        have hg_0 := hgn_0
        have hg_1 := hgn_1
        have hg_2 := hgn_2
        have hg_3 := hgn_3
        clear hSn HBn hbn hgn_0 hgn_1 hgn_2 hgn_3
        obtain ⟨wc, rfl⟩ : ∃ x : World, x = wn := ⟨_, rfl⟩
        obtain ⟨r0, r1, r2, f0, f1, f2⟩ := three_cells HA.out
        refine HT.done (by kernel_rfl) ?_
        clear hS
        simp only [List.drop_succ_cons, List.drop_zero]
        have HQ6 := Lib.hid (QBox.store (k := 10000) (m := 10000) HA.out H4.out (by omega) (by omega))
        have HBT := Lib.hid (box3_below (v0 := .bool ng4) (v1 := .slice A4 n4 c4) (v2 := .slice D4 d4 e4) HBc.out HGg16.out)
        go_wp2_with fail
        go_meet
        exact ⟨g16, rfl, HQ6, HBT⟩
        -- H4 HA
    case rest =>
    obtain ⟨g16, rfl, HQC, HBU⟩ := hcut
    obtain ⟨U, rfl⟩ : ∃ x : World, x = wc := ⟨_, rfl⟩
    replace HQB := Lib.hid (HQB.out.below HBU.out)
    obtain ⟨q8, hq8⟩ : ∃ q, ((Y : Rat) - q9 * (X : Rat)) / ((n : Int) : Rat) = q := ⟨_, rfl⟩
    rw [hq8] at HQC
    have HQ8 := Lib.hid hq8
    have HBA3 := Lib.hid (HBA2.out.trans (HBU.out.mono HBA2.out.size))
    clear hq8 HBU HBA2
    have HFA : Hid (fitA l = q9) := by show _ = _; unfold fitA; rw [hl.out, EX.out, EY.out, EP.out, EQ.out]; exact HQ9.out
    have HFB : Hid (fitB l = q8) := by show _ = _; unfold fitB; rw [HFA.out, hl.out, EX.out, EY.out]; exact HQ8.out
    have HRA : Hid (resP q9 = (txN q9, txD q9, 0)) := by show _ = _; unfold resP; rw [← HFA.out, if_pos HF.out.1]
    have HRB : Hid (resP q8 = (txN q8, txD q8, 0)) := by show _ = _; unfold resP; rw [← HFB.out, if_pos HF.out.2]
    obtain ⟨ngS, AS, nS, cS, DS, dS, eS, bS, hS0, kS, mS⟩ := HQB.out
    obtain ⟨ngT, AT, nT, cT, DT, dT, eT, bT, hT0, kT, mT⟩ := HQC.out
    have HS9 := Lib.hid hS0
    have HT9 := Lib.hid hT0
    have HBT := Lib.hid bT
    obtain ⟨s0, s1, s2, _, _, _⟩ := three_cells bS
    clear bS hS0 bT hT0 HQB HQC I5 I6 I7 HQ9 HQ8 EX EY EP EQ HDP HNN
    go_wp2_with fail
    refine (RESULT_any ngS AS DS nS cS dS eS q9 (by omega) (by omega) _ U.heap.size (Nat.le_refl _) HS9).mono ?_
    rw [HRA.out]
    rintro e w17 ⟨rfl, hb17⟩
    unfold tup3
    dsimp only
    go_upto_region 16 with (fail)
    obtain ⟨W17, g17, hW17, hg17, HG17, HBW17, HSW17⟩ := cell_new0 w17 24 #[.string (txN q9), .string (txD q9)]
    rw [← hW17, ← hg17]
    have HBU17 := Lib.hid (hb17.trans (HBW17.out.mono hb17.size))
    have HT10 := Lib.hid (HT9.out.to HBU17.out (Nat.le_refl _) HBU17.out.size)
    have HBT10 := Lib.hid ((HBU17.out.block g16 (blk_lt HBT.out)).trans HBT.out)
    have HBA4 := Lib.hid (HBA3.out.trans (HBU17.out.mono HBA3.out.size))
    obtain ⟨t0, t1, t2, _, _, _⟩ := three_cells HBT10.out
    clear hW17 hg17 HBW17 HSW17 hb17 HT9 HBT HBU17 s0 s1 s2 HBA3
    go_wp2_with fail
    refine (RESULT_any ngT AT DT nT cT dT eT q8 (by omega) (by omega) _ W17.heap.size (Nat.le_refl _) HT10).mono ?_
    rw [HRB.out]
    rintro e w19 ⟨rfl, hb19⟩
    unfold tup3
    dsimp only
    go_upto_region 19 with (fail)
    obtain ⟨W19, g19, hW19, hg19, HG19, HBW19, HSW19⟩ := cell_new0 w19 24 #[.string (txN q8), .string (txD q8)]
    rw [← hW19, ← hg19]
    have HG17' := Lib.hid ((hb19.block g17 (blk_lt HG17.out)).trans HG17.out)
    have HG17'' := Lib.hid ((HBW19.out.block g17 (blk_lt HG17'.out)).trans HG17'.out)
    have HB17W := Lib.hid (hb19.trans (HBW19.out.mono hb19.size))
    have HBA5 := Lib.hid (HBA4.out.trans (HB17W.out.mono HBA4.out.size))
    have HL5 := Lib.hid ((HBA5.out.block gl (blk_lt HHL.out)).trans HHL.out)
    obtain ⟨a0, a1, _, _⟩ := two_cells HG17''.out
    obtain ⟨b0, b1, _, _⟩ := two_cells HG19.out
    obtain ⟨c0, c1, c2, c3, f0, f1, f2, f3⟩ := four_cells HL5.out
    have HBF := Lib.hid (HBL.out.trans (HBA5.out.mono HBL.out.size))
    clear hW19 hg19 HBW19 HSW19 hb19 HG17' HB17W HBA4 t0 t1 t2
    go_wp2_with fail
    obtain ⟨e0, e1, e2, e3, _⟩ := four_cells (box4_heap (v0 := .string (txN q9)) (v1 := .string (txD q9)) (v2 := .string (txN q8)) (v3 := .string (txD q8)) HL5.out)
    refine bodyPost_ret (res_line (p := 2) (u := 3) rfl rfl e0 e1 e2 e3) rfl ⟨?_, (((HBF.out.setCell (p := ⟨gl, 0, none⟩) hglo _).setCell (p := ⟨gl, 1, none⟩) hglo _).setCell (p := ⟨gl, 2, none⟩) hglo _).setCell (p := ⟨gl, 3, none⟩) hglo _⟩
    rw [HFA.out, HFB.out]
    rfl
  case first =>
  go_wp2_with fail
  go_loopw [31] (fun i wr => ∃ k : Nat, k ≤ n ∧ i = .int .i64 k ∧ Hid (IBox wr g6 (sumZ (fun p => p.1) l k) (k + 5)) ∧ Hid (IBox wr g7 (sumZ (fun p => p.2) l k) (k + 5)) ∧ Hid (IBox wr g8 (sumZ (fun p => p.1 * p.1) l k) (k + 5)) ∧ Hid (IBox wr g9 (sumZ (fun p => p.1 * p.2) l k) (k + 5)) ∧ Hid (IBox wr g5 (n : Int) 2) ∧ Hid (Below w.heap.size w wr)) (fun i _ => n - (intOf i).toNat)
  case atStart => exact ⟨0, Nat.zero_le _, rfl, J6, J7, J8, J9, J5, HB6⟩
  case round =>
    obtain ⟨k, hk, rfl, I6, I7, I8, I9, I5, hb⟩ := hrel
    have hsz : w.heap.size ≤ wr.heap.size := hb.out.size
    by_cases hlt : k < n
    · obtain ⟨bA, oA, rfl, hbA, k1, k2⟩ := (hh.out.below (hb.out.mono hB) (Nat.le_refl _)).2 k hlt
      have hbAw : bA < wr.heap.size := by omega
      obtain ⟨⟨rg1, rg2⟩, rg3, rg4⟩ := HRG.out k (by rw [hl.out]; exact hlt)
      obtain ⟨p, hp⟩ : ∃ p, prOf l k = p := ⟨_, rfl⟩
      obtain ⟨x, y⟩ := p
      have SX : Hid (sumZ (fun p => p.1) l (k + 1) = sumZ (fun p => p.1) l k + x) := by show sumZ (fun p => p.1) l k + (prOf l k).1 = _; rw [hp]
      have SY : Hid (sumZ (fun p => p.2) l (k + 1) = sumZ (fun p => p.2) l k + y) := by show sumZ (fun p => p.2) l k + (prOf l k).2 = _; rw [hp]
      have SP : Hid (sumZ (fun p => p.1 * p.1) l (k + 1) = sumZ (fun p => p.1 * p.1) l k + x * x) := by show sumZ (fun p => p.1 * p.1) l k + (prOf l k).1 * (prOf l k).1 = _; rw [hp]
      have SQ : Hid (sumZ (fun p => p.1 * p.2) l (k + 1) = sumZ (fun p => p.1 * p.2) l k + x * y) := by show sumZ (fun p => p.1 * p.2) l k + (prOf l k).1 * (prOf l k).2 = _; rw [hp]
      rw [hp] at k1 k2 rg1 rg2 rg3 rg4
      dsimp only at k1 k2 rg1 rg2 rg3 rg4
      have hk0 : (0 : Int) ≤ (k : Int) := by omega
      have hkn : (k : Int) < (n : Int) := by omega
      obtain ⟨W, g11, hW, hg11, HPB, HBW, _⟩ := cell_new0 wr 39 #[.int .i64 x, .int .i64 y]
      obtain ⟨p0, p1, _, _⟩ := two_cells HPB.out
      go_upto_region 9 with (fail)
      rw [← hW, ← hg11]
      replace I6 := Lib.hid (I6.out.below HBW.out)
      replace I7 := Lib.hid (I7.out.below HBW.out)
      replace I8 := Lib.hid (I8.out.below HBW.out)
      replace I9 := Lib.hid (I9.out.below HBW.out)
      replace I5 := Lib.hid (I5.out.below HBW.out)
      have HBA1 := Lib.hid (hb.out.trans (HBW.out.mono hsz))
      clear hW hg11 hp k1 k2 HBW hb hbAw hbA
      go_cut [12, 13, 31] from 31 to 57 (fun v12 v13 v31 wx => ∃ g12 g13 : Nat, v31 = .int .i64 k ∧ v12 = .pointer (some ⟨g12, 0, none⟩) ∧ v13 = .pointer (some ⟨g13, 0, none⟩) ∧ Hid (IBox wx g12 x 2) ∧ Hid (IBox wx g13 y 2) ∧ Hid (Below W.heap.size W wx))
      case first =>
        refine wp_region_head 8 (fun x9 => x9.cell? ⟨g11, 0, none⟩ = some (.int .i64 x) ∧ x9.cell? ⟨g11, 1, none⟩ = some (.int .i64 y)) (by kernel_rfl) (by kernel_rfl) ?_
        obtain ⟨wc, hwc⟩ : ∃ x : World, x = W.drew := ⟨_, rfl⟩
        have hbn : Below W.heap.size W W.drew := (Below.refl _ _).drew
        clear hbn
        have HBc : Hid (Below W.heap.size W wc) := by show Below _ _ _; rw [hwc]; exact (Below.refl _ _).drew
        have hS : wc.cell? ⟨g11, 0, none⟩ = some (.int .i64 x) ∧ wc.cell? ⟨g11, 1, none⟩ = some (.int .i64 y) := by rw [hwc]; exact ⟨p0, p1⟩
        have hg_0 : g11 < wc.heap.size := by rw [hwc]; exact blk_lt HPB.out
        rw [← hwc]
        clear hwc
        refine HL.take (i := 0) (oi := _) (v := ?_) rfl (by kernel_rfl) (by kernel_rfl) (by decide) (fun _ _ _ h => h) (Or.inl ⟨by rfl, ?_⟩) hS ?_
        rotate_left
        · intro wz hwz
          try dsimp only at hwz
          go_simp
          try with_reducible rfl
        simp only [List.getElem_toArray, List.getElem_cons_succ, List.getElem_cons_zero, Act.put, List.setIfInBounds_toArray, List.set_cons_zero, List.set_cons_succ]
        refine HL.take (i := 1) (oi := _) (v := ?_) rfl (by kernel_rfl) (by kernel_rfl) (by decide) (fun _ _ _ h => h) (Or.inl ⟨by rfl, ?_⟩) hS ?_
        rotate_left
        · intro wz hwz
          try dsimp only at hwz
          go_simp
          try with_reducible rfl
        simp only [List.getElem_toArray, List.getElem_cons_succ, List.getElem_cons_zero, Act.put, List.setIfInBounds_toArray, List.set_cons_zero, List.set_cons_succ]
        refine HL.take (i := 3) (oi := _) (v := ?_) rfl (by kernel_rfl) (by kernel_rfl) (by decide) (fun _ _ _ h => h) (Or.inl ⟨by rfl, ?_⟩) hS ?_
        rotate_left
        · intro wz hwz
          try dsimp only at hwz
          go_simp
          try with_reducible rfl
        simp only [List.getElem_toArray, List.getElem_cons_succ, List.getElem_cons_zero, Act.put, List.setIfInBounds_toArray, List.set_cons_zero, List.set_cons_succ]
        refine HL.take (i := 4) (oi := _) (v := ?_) rfl (by kernel_rfl) (by kernel_rfl) (by decide) (fun _ _ _ h => h) (Or.inl ⟨by rfl, ?_⟩) hS ?_
        rotate_left
        · intro wz hwz
          try dsimp only at hwz
          go_simp
          try with_reducible rfl
        simp only [List.getElem_toArray, List.getElem_cons_succ, List.getElem_cons_zero, Act.put, List.setIfInBounds_toArray, List.set_cons_zero, List.set_cons_succ]
        refine HL.three 2 6 7 (o1 := _) (o2 := _) (o3 := _) rfl rfl rfl (by kernel_rfl) (by decide) (by decide) (by decide) (by rfl) (by rfl) (by rfl) ?_ ?_ ?_
        · intro K hK
          go_simp
          refine (IOF_any x (by omega) (by omega) _).mono ?_
          rintro e wn ⟨ng1, A1, n1, c1, rfl, hH1, k1, hbn⟩
          have H1 := Lib.hid hH1
          clear hH1
          have HBn := Lib.hid (HBc.out.trans (hbn.mono HBc.out.size))
          have hSn : wn.cell? ⟨g11, 0, none⟩ = some (.int .i64 x) ∧ wn.cell? ⟨g11, 1, none⟩ = some (.int .i64 y) := ⟨(hbn.cell (p := ⟨g11, 0, none⟩) hg_0).trans hS.1, (hbn.cell (p := ⟨g11, 1, none⟩) hg_0).trans hS.2⟩
          have hgn_0 := Nat.lt_of_lt_of_le hg_0 hbn.size
          refine hK.out _ _ hSn ?_
          clear hK K hS HBc hg_0
          try simp only [List.getElem_toArray, List.getElem_cons_succ, List.getElem_cons_zero, Act.put, List.setIfInBounds_toArray, List.set_cons_zero, List.set_cons_succ]
          have hS := hSn
          have HBc := HBn
          have hg_0 := hgn_0
          clear hSn HBn hbn hgn_0
          obtain ⟨wc, rfl⟩ : ∃ x : World, x = wn := ⟨_, rfl⟩
          refine HL.three 5 6 7 (o1 := _) (o2 := _) (o3 := _) rfl rfl rfl (by kernel_rfl) (by decide) (by decide) (by decide) (by rfl) (by rfl) (by rfl) ?_ ?_ ?_
          · intro K hK
            go_simp
            refine (IOF_any y (by omega) (by omega) _).mono ?_
            rintro e wn ⟨ng2, A2, n2, c2, rfl, hH2, k2, hbn⟩
            have H2 := Lib.hid hH2
            clear hH2
            replace H1 := Lib.hid (H1.out.to hbn (Nat.le_refl _) hbn.size)
            have HBn := Lib.hid (HBc.out.trans (hbn.mono HBc.out.size))
            have hSn : wn.cell? ⟨g11, 0, none⟩ = some (.int .i64 x) ∧ wn.cell? ⟨g11, 1, none⟩ = some (.int .i64 y) := ⟨(hbn.cell (p := ⟨g11, 0, none⟩) hg_0).trans hS.1, (hbn.cell (p := ⟨g11, 1, none⟩) hg_0).trans hS.2⟩
            have hgn_0 := Nat.lt_of_lt_of_le hg_0 hbn.size
            refine hK.out _ _ hSn ?_
            clear hK K hS HBc hg_0
            try simp only [List.getElem_toArray, List.getElem_cons_succ, List.getElem_cons_zero, Act.put, List.setIfInBounds_toArray, List.set_cons_zero, List.set_cons_succ]
            have hS := hSn
            have HBc := HBn
            have hg_0 := hgn_0
            clear hSn HBn hbn hgn_0
            obtain ⟨wc, rfl⟩ : ∃ x : World, x = wn := ⟨_, rfl⟩
            refine HL.two 6 7 (o1 := _) (o2 := _) rfl rfl (by kernel_rfl) (by decide) (by decide) (by rfl) (by rfl) ?_ ?_
            · intro K hK
              go_simp
              obtain ⟨wn, g12, hwn, hga9, hHA, hbn0, _⟩ := cell_new0 wc 36 #[.bool false, .slice none 0 0]
              have hbn := hbn0.out
              have HGg12 : Hid (W.heap.size ≤ g12) := by show _ ≤ _; rw [hga9]; exact HBc.out.size
              rw [← hwn, ← hga9]
              have HA := hHA
              clear hwn hga9 hbn0 hHA
              replace H1 := Lib.hid (H1.out.to hbn (Nat.le_refl _) hbn.size)
              replace H2 := Lib.hid (H2.out.to hbn (Nat.le_refl _) hbn.size)
              have HBn := Lib.hid (HBc.out.trans (hbn.mono HBc.out.size))
              have hSn : wn.cell? ⟨g11, 0, none⟩ = some (.int .i64 x) ∧ wn.cell? ⟨g11, 1, none⟩ = some (.int .i64 y) := ⟨(hbn.cell (p := ⟨g11, 0, none⟩) hg_0).trans hS.1, (hbn.cell (p := ⟨g11, 1, none⟩) hg_0).trans hS.2⟩
              have hgn_0 := Nat.lt_of_lt_of_le hg_0 hbn.size
              refine hK.out _ _ hSn ?_
              clear hK K hS HBc hg_0
              try simp only [List.getElem_toArray, List.getElem_cons_succ, List.getElem_cons_zero, Act.put, List.setIfInBounds_toArray, List.set_cons_zero, List.set_cons_succ]
              have hS := hSn
              have HBc := HBn
              have hg_0 := hgn_0
              clear hSn HBn hbn hgn_0
              obtain ⟨wc, rfl⟩ : ∃ x : World, x = wn := ⟨_, rfl⟩
              refine HL.one (i := 7) (o := _) rfl (by kernel_rfl) (by decide) (by rfl) ?_
              intro K hK
              go_simp
              obtain ⟨wn, g13, hwn, hga9, hHC, hbn0, _⟩ := cell_new0 wc 36 #[.bool false, .slice none 0 0]
              have hbn := hbn0.out
              have HGg13 : Hid (W.heap.size ≤ g13) := by show _ ≤ _; rw [hga9]; exact HBc.out.size
              have hne_g12_g13 : g12 ≠ g13 := by have := blk_lt HA.out; omega
              rw [← hwn, ← hga9]
              have HC := hHC
              clear hwn hga9 hbn0 hHC
              replace H1 := Lib.hid (H1.out.to hbn (Nat.le_refl _) hbn.size)
              replace H2 := Lib.hid (H2.out.to hbn (Nat.le_refl _) hbn.size)
              replace HA := Lib.hid ((hbn.block g12 (blk_lt HA.out)).trans HA.out)
              have HBn := Lib.hid (HBc.out.trans (hbn.mono HBc.out.size))
              have hSn : wn.cell? ⟨g11, 0, none⟩ = some (.int .i64 x) ∧ wn.cell? ⟨g11, 1, none⟩ = some (.int .i64 y) := ⟨(hbn.cell (p := ⟨g11, 0, none⟩) hg_0).trans hS.1, (hbn.cell (p := ⟨g11, 1, none⟩) hg_0).trans hS.2⟩
              have hgn_0 := Nat.lt_of_lt_of_le hg_0 hbn.size
              refine hK.out _ _ hSn ?_
              clear hK K hS HBc hg_0
              try simp only [List.getElem_toArray, List.getElem_cons_succ, List.getElem_cons_zero, Act.put, List.setIfInBounds_toArray, List.set_cons_zero, List.set_cons_succ]
              have hS := hSn
              have HBc := HBn
              have hg_0 := hgn_0
              clear hSn HBn hbn hgn_0
              obtain ⟨wc, rfl⟩ : ∃ x : World, x = wn := ⟨_, rfl⟩
              obtain ⟨hr0, hr1, hf0, hf1⟩ := two_cells HA.out
              obtain ⟨ht0, ht1, hu0, hu1⟩ := two_cells HC.out
              refine HL.done (by kernel_rfl) ?_
              clear hS
              simp only [List.drop_succ_cons, List.drop_zero]
              have hne : g12 ≠ g13 := by first | assumption | (intro h; exact absurd h.symm (by assumption))
              have HA1 := Lib.hid (IBox.store HA.out H1.out (k := 2) (by omega))
              have HC0 := Lib.hid (box_far (box_far HC.out hne.symm 0 (.bool ng1)) hne.symm 1 (.slice A1 n1 c1))
              have H2' := Lib.hid (H2.out.box2 (g := g12) ⟨_, _, HA.out⟩ (by decide) (.bool ng1) (.slice A1 n1 c1))
              have HC1 := Lib.hid (IBox.store HC0.out H2'.out (k := 2) (by omega))
              have HA2 := Lib.hid (HA1.out.far (p := g13) ⟨_, _, HC0.out⟩ hne (.bool ng2) (.slice A2 n2 c2))
              have HBS := Lib.hid (box2_below (v0 := .bool ng2) (v1 := .slice A2 n2 c2) (box2_below (v0 := .bool ng1) (v1 := .slice A1 n1 c1) HBc.out HGg12.out) HGg13.out)
              go_wp2_with fail
              go_meet
              exact ⟨g12, g13, rfl, rfl, rfl, HA2, HC1, HBS⟩
              -- H1 H2 HA HC
            · intro K hK
              go_simp
              obtain ⟨wn, g13, hwn, hga9, hHC, hbn0, _⟩ := cell_new0 wc 36 #[.bool false, .slice none 0 0]
              have hbn := hbn0.out
              have HGg13 : Hid (W.heap.size ≤ g13) := by show _ ≤ _; rw [hga9]; exact HBc.out.size
              rw [← hwn, ← hga9]
              have HC := hHC
              clear hwn hga9 hbn0 hHC
              replace H1 := Lib.hid (H1.out.to hbn (Nat.le_refl _) hbn.size)
              replace H2 := Lib.hid (H2.out.to hbn (Nat.le_refl _) hbn.size)
              have HBn := Lib.hid (HBc.out.trans (hbn.mono HBc.out.size))
              have hSn : wn.cell? ⟨g11, 0, none⟩ = some (.int .i64 x) ∧ wn.cell? ⟨g11, 1, none⟩ = some (.int .i64 y) := ⟨(hbn.cell (p := ⟨g11, 0, none⟩) hg_0).trans hS.1, (hbn.cell (p := ⟨g11, 1, none⟩) hg_0).trans hS.2⟩
              have hgn_0 := Nat.lt_of_lt_of_le hg_0 hbn.size
              refine hK.out _ _ hSn ?_
              clear hK K hS HBc hg_0
              try simp only [List.getElem_toArray, List.getElem_cons_succ, List.getElem_cons_zero, Act.put, List.setIfInBounds_toArray, List.set_cons_zero, List.set_cons_succ]
              have hS := hSn
              have HBc := HBn
              have hg_0 := hgn_0
              clear hSn HBn hbn hgn_0
              obtain ⟨wc, rfl⟩ : ∃ x : World, x = wn := ⟨_, rfl⟩
              refine HL.one (i := 6) (o := _) rfl (by kernel_rfl) (by decide) (by rfl) ?_
              intro K hK
              go_simp
              obtain ⟨wn, g12, hwn, hga9, hHA, hbn0, _⟩ := cell_new0 wc 36 #[.bool false, .slice none 0 0]
              have hbn := hbn0.out
              have HGg12 : Hid (W.heap.size ≤ g12) := by show _ ≤ _; rw [hga9]; exact HBc.out.size
              have hne_g13_g12 : g13 ≠ g12 := by have := blk_lt HC.out; omega
              rw [← hwn, ← hga9]
              have HA := hHA
              clear hwn hga9 hbn0 hHA
              replace H1 := Lib.hid (H1.out.to hbn (Nat.le_refl _) hbn.size)
              replace H2 := Lib.hid (H2.out.to hbn (Nat.le_refl _) hbn.size)
              replace HC := Lib.hid ((hbn.block g13 (blk_lt HC.out)).trans HC.out)
              have HBn := Lib.hid (HBc.out.trans (hbn.mono HBc.out.size))
              have hSn : wn.cell? ⟨g11, 0, none⟩ = some (.int .i64 x) ∧ wn.cell? ⟨g11, 1, none⟩ = some (.int .i64 y) := ⟨(hbn.cell (p := ⟨g11, 0, none⟩) hg_0).trans hS.1, (hbn.cell (p := ⟨g11, 1, none⟩) hg_0).trans hS.2⟩
              have hgn_0 := Nat.lt_of_lt_of_le hg_0 hbn.size
              refine hK.out _ _ hSn ?_
              clear hK K hS HBc hg_0
              try simp only [List.getElem_toArray, List.getElem_cons_succ, List.getElem_cons_zero, Act.put, List.setIfInBounds_toArray, List.set_cons_zero, List.set_cons_succ]
              have hS := hSn
              have HBc := HBn
              have hg_0 := hgn_0
              clear hSn HBn hbn hgn_0
              obtain ⟨wc, rfl⟩ : ∃ x : World, x = wn := ⟨_, rfl⟩
              obtain ⟨hr0, hr1, hf0, hf1⟩ := two_cells HA.out
              obtain ⟨ht0, ht1, hu0, hu1⟩ := two_cells HC.out
              refine HL.done (by kernel_rfl) ?_
              clear hS
              simp only [List.drop_succ_cons, List.drop_zero]
              have hne : g12 ≠ g13 := by first | assumption | (intro h; exact absurd h.symm (by assumption))
              have HA1 := Lib.hid (IBox.store HA.out H1.out (k := 2) (by omega))
              have HC0 := Lib.hid (box_far (box_far HC.out hne.symm 0 (.bool ng1)) hne.symm 1 (.slice A1 n1 c1))
              have H2' := Lib.hid (H2.out.box2 (g := g12) ⟨_, _, HA.out⟩ (by decide) (.bool ng1) (.slice A1 n1 c1))
              have HC1 := Lib.hid (IBox.store HC0.out H2'.out (k := 2) (by omega))
              have HA2 := Lib.hid (HA1.out.far (p := g13) ⟨_, _, HC0.out⟩ hne (.bool ng2) (.slice A2 n2 c2))
              have HBS := Lib.hid (box2_below (v0 := .bool ng2) (v1 := .slice A2 n2 c2) (box2_below (v0 := .bool ng1) (v1 := .slice A1 n1 c1) HBc.out HGg12.out) HGg13.out)
              go_wp2_with fail
              go_meet
              exact ⟨g12, g13, rfl, rfl, rfl, HA2, HC1, HBS⟩
              -- H1 H2 HA HC
          · intro K hK
            go_simp
            obtain ⟨wn, g12, hwn, hga9, hHA, hbn0, _⟩ := cell_new0 wc 36 #[.bool false, .slice none 0 0]
            have hbn := hbn0.out
            have HGg12 : Hid (W.heap.size ≤ g12) := by show _ ≤ _; rw [hga9]; exact HBc.out.size
            rw [← hwn, ← hga9]
            have HA := hHA
            clear hwn hga9 hbn0 hHA
            replace H1 := Lib.hid (H1.out.to hbn (Nat.le_refl _) hbn.size)
            have HBn := Lib.hid (HBc.out.trans (hbn.mono HBc.out.size))
            have hSn : wn.cell? ⟨g11, 0, none⟩ = some (.int .i64 x) ∧ wn.cell? ⟨g11, 1, none⟩ = some (.int .i64 y) := ⟨(hbn.cell (p := ⟨g11, 0, none⟩) hg_0).trans hS.1, (hbn.cell (p := ⟨g11, 1, none⟩) hg_0).trans hS.2⟩
            have hgn_0 := Nat.lt_of_lt_of_le hg_0 hbn.size
            refine hK.out _ _ hSn ?_
            clear hK K hS HBc hg_0
            try simp only [List.getElem_toArray, List.getElem_cons_succ, List.getElem_cons_zero, Act.put, List.setIfInBounds_toArray, List.set_cons_zero, List.set_cons_succ]
            have hS := hSn
            have HBc := HBn
            have hg_0 := hgn_0
            clear hSn HBn hbn hgn_0
            obtain ⟨wc, rfl⟩ : ∃ x : World, x = wn := ⟨_, rfl⟩
            refine HL.two 5 7 (o1 := _) (o2 := _) rfl rfl (by kernel_rfl) (by decide) (by decide) (by rfl) (by rfl) ?_ ?_
            · intro K hK
              go_simp
              refine (IOF_any y (by omega) (by omega) _).mono ?_
              rintro e wn ⟨ng2, A2, n2, c2, rfl, hH2, k2, hbn⟩
              have H2 := Lib.hid hH2
              clear hH2
              replace H1 := Lib.hid (H1.out.to hbn (Nat.le_refl _) hbn.size)
              replace HA := Lib.hid ((hbn.block g12 (blk_lt HA.out)).trans HA.out)
              have HBn := Lib.hid (HBc.out.trans (hbn.mono HBc.out.size))
              have hSn : wn.cell? ⟨g11, 0, none⟩ = some (.int .i64 x) ∧ wn.cell? ⟨g11, 1, none⟩ = some (.int .i64 y) := ⟨(hbn.cell (p := ⟨g11, 0, none⟩) hg_0).trans hS.1, (hbn.cell (p := ⟨g11, 1, none⟩) hg_0).trans hS.2⟩
              have hgn_0 := Nat.lt_of_lt_of_le hg_0 hbn.size
              refine hK.out _ _ hSn ?_
              clear hK K hS HBc hg_0
              try simp only [List.getElem_toArray, List.getElem_cons_succ, List.getElem_cons_zero, Act.put, List.setIfInBounds_toArray, List.set_cons_zero, List.set_cons_succ]
              have hS := hSn
              have HBc := HBn
              have hg_0 := hgn_0
              clear hSn HBn hbn hgn_0
              obtain ⟨wc, rfl⟩ : ∃ x : World, x = wn := ⟨_, rfl⟩
              refine HL.one (i := 7) (o := _) rfl (by kernel_rfl) (by decide) (by rfl) ?_
              intro K hK
              go_simp
              obtain ⟨wn, g13, hwn, hga9, hHC, hbn0, _⟩ := cell_new0 wc 36 #[.bool false, .slice none 0 0]
              have hbn := hbn0.out
              have HGg13 : Hid (W.heap.size ≤ g13) := by show _ ≤ _; rw [hga9]; exact HBc.out.size
              have hne_g12_g13 : g12 ≠ g13 := by have := blk_lt HA.out; omega
              rw [← hwn, ← hga9]
              have HC := hHC
              clear hwn hga9 hbn0 hHC
              replace H1 := Lib.hid (H1.out.to hbn (Nat.le_refl _) hbn.size)
              replace HA := Lib.hid ((hbn.block g12 (blk_lt HA.out)).trans HA.out)
              replace H2 := Lib.hid (H2.out.to hbn (Nat.le_refl _) hbn.size)
              have HBn := Lib.hid (HBc.out.trans (hbn.mono HBc.out.size))
              have hSn : wn.cell? ⟨g11, 0, none⟩ = some (.int .i64 x) ∧ wn.cell? ⟨g11, 1, none⟩ = some (.int .i64 y) := ⟨(hbn.cell (p := ⟨g11, 0, none⟩) hg_0).trans hS.1, (hbn.cell (p := ⟨g11, 1, none⟩) hg_0).trans hS.2⟩
              have hgn_0 := Nat.lt_of_lt_of_le hg_0 hbn.size
              refine hK.out _ _ hSn ?_
              clear hK K hS HBc hg_0
              try simp only [List.getElem_toArray, List.getElem_cons_succ, List.getElem_cons_zero, Act.put, List.setIfInBounds_toArray, List.set_cons_zero, List.set_cons_succ]
              have hS := hSn
              have HBc := HBn
              have hg_0 := hgn_0
              clear hSn HBn hbn hgn_0
              obtain ⟨wc, rfl⟩ : ∃ x : World, x = wn := ⟨_, rfl⟩
              obtain ⟨hr0, hr1, hf0, hf1⟩ := two_cells HA.out
              obtain ⟨ht0, ht1, hu0, hu1⟩ := two_cells HC.out
              refine HL.done (by kernel_rfl) ?_
              clear hS
              simp only [List.drop_succ_cons, List.drop_zero]
              have hne : g12 ≠ g13 := by first | assumption | (intro h; exact absurd h.symm (by assumption))
              have HA1 := Lib.hid (IBox.store HA.out H1.out (k := 2) (by omega))
              have HC0 := Lib.hid (box_far (box_far HC.out hne.symm 0 (.bool ng1)) hne.symm 1 (.slice A1 n1 c1))
              have H2' := Lib.hid (H2.out.box2 (g := g12) ⟨_, _, HA.out⟩ (by decide) (.bool ng1) (.slice A1 n1 c1))
              have HC1 := Lib.hid (IBox.store HC0.out H2'.out (k := 2) (by omega))
              have HA2 := Lib.hid (HA1.out.far (p := g13) ⟨_, _, HC0.out⟩ hne (.bool ng2) (.slice A2 n2 c2))
              have HBS := Lib.hid (box2_below (v0 := .bool ng2) (v1 := .slice A2 n2 c2) (box2_below (v0 := .bool ng1) (v1 := .slice A1 n1 c1) HBc.out HGg12.out) HGg13.out)
              go_wp2_with fail
              go_meet
              exact ⟨g12, g13, rfl, rfl, rfl, HA2, HC1, HBS⟩
              -- H1 H2 HA HC
            · intro K hK
              go_simp
              obtain ⟨wn, g13, hwn, hga9, hHC, hbn0, _⟩ := cell_new0 wc 36 #[.bool false, .slice none 0 0]
              have hbn := hbn0.out
              have HGg13 : Hid (W.heap.size ≤ g13) := by show _ ≤ _; rw [hga9]; exact HBc.out.size
              have hne_g12_g13 : g12 ≠ g13 := by have := blk_lt HA.out; omega
              rw [← hwn, ← hga9]
              have HC := hHC
              clear hwn hga9 hbn0 hHC
              replace H1 := Lib.hid (H1.out.to hbn (Nat.le_refl _) hbn.size)
              replace HA := Lib.hid ((hbn.block g12 (blk_lt HA.out)).trans HA.out)
              have HBn := Lib.hid (HBc.out.trans (hbn.mono HBc.out.size))
              have hSn : wn.cell? ⟨g11, 0, none⟩ = some (.int .i64 x) ∧ wn.cell? ⟨g11, 1, none⟩ = some (.int .i64 y) := ⟨(hbn.cell (p := ⟨g11, 0, none⟩) hg_0).trans hS.1, (hbn.cell (p := ⟨g11, 1, none⟩) hg_0).trans hS.2⟩
              have hgn_0 := Nat.lt_of_lt_of_le hg_0 hbn.size
              refine hK.out _ _ hSn ?_
              clear hK K hS HBc hg_0
              try simp only [List.getElem_toArray, List.getElem_cons_succ, List.getElem_cons_zero, Act.put, List.setIfInBounds_toArray, List.set_cons_zero, List.set_cons_succ]
              have hS := hSn
              have HBc := HBn
              have hg_0 := hgn_0
              clear hSn HBn hbn hgn_0
              obtain ⟨wc, rfl⟩ : ∃ x : World, x = wn := ⟨_, rfl⟩
              refine HL.one (i := 5) (o := _) rfl (by kernel_rfl) (by decide) (by rfl) ?_
              intro K hK
              go_simp
              refine (IOF_any y (by omega) (by omega) _).mono ?_
              rintro e wn ⟨ng2, A2, n2, c2, rfl, hH2, k2, hbn⟩
              have H2 := Lib.hid hH2
              clear hH2
              replace H1 := Lib.hid (H1.out.to hbn (Nat.le_refl _) hbn.size)
              replace HA := Lib.hid ((hbn.block g12 (blk_lt HA.out)).trans HA.out)
              replace HC := Lib.hid ((hbn.block g13 (blk_lt HC.out)).trans HC.out)
              have HBn := Lib.hid (HBc.out.trans (hbn.mono HBc.out.size))
              have hSn : wn.cell? ⟨g11, 0, none⟩ = some (.int .i64 x) ∧ wn.cell? ⟨g11, 1, none⟩ = some (.int .i64 y) := ⟨(hbn.cell (p := ⟨g11, 0, none⟩) hg_0).trans hS.1, (hbn.cell (p := ⟨g11, 1, none⟩) hg_0).trans hS.2⟩
              have hgn_0 := Nat.lt_of_lt_of_le hg_0 hbn.size
              refine hK.out _ _ hSn ?_
              clear hK K hS HBc hg_0
              try simp only [List.getElem_toArray, List.getElem_cons_succ, List.getElem_cons_zero, Act.put, List.setIfInBounds_toArray, List.set_cons_zero, List.set_cons_succ]
              have hS := hSn
              have HBc := HBn
              have hg_0 := hgn_0
              clear hSn HBn hbn hgn_0
              obtain ⟨wc, rfl⟩ : ∃ x : World, x = wn := ⟨_, rfl⟩
              obtain ⟨hr0, hr1, hf0, hf1⟩ := two_cells HA.out
              obtain ⟨ht0, ht1, hu0, hu1⟩ := two_cells HC.out
              refine HL.done (by kernel_rfl) ?_
              clear hS
              simp only [List.drop_succ_cons, List.drop_zero]
              have hne : g12 ≠ g13 := by first | assumption | (intro h; exact absurd h.symm (by assumption))
              have HA1 := Lib.hid (IBox.store HA.out H1.out (k := 2) (by omega))
              have HC0 := Lib.hid (box_far (box_far HC.out hne.symm 0 (.bool ng1)) hne.symm 1 (.slice A1 n1 c1))
              have H2' := Lib.hid (H2.out.box2 (g := g12) ⟨_, _, HA.out⟩ (by decide) (.bool ng1) (.slice A1 n1 c1))
              have HC1 := Lib.hid (IBox.store HC0.out H2'.out (k := 2) (by omega))
              have HA2 := Lib.hid (HA1.out.far (p := g13) ⟨_, _, HC0.out⟩ hne (.bool ng2) (.slice A2 n2 c2))
              have HBS := Lib.hid (box2_below (v0 := .bool ng2) (v1 := .slice A2 n2 c2) (box2_below (v0 := .bool ng1) (v1 := .slice A1 n1 c1) HBc.out HGg12.out) HGg13.out)
              go_wp2_with fail
              go_meet
              exact ⟨g12, g13, rfl, rfl, rfl, HA2, HC1, HBS⟩
              -- H1 H2 HA HC
          · intro K hK
            go_simp
            obtain ⟨wn, g13, hwn, hga9, hHC, hbn0, _⟩ := cell_new0 wc 36 #[.bool false, .slice none 0 0]
            have hbn := hbn0.out
            have HGg13 : Hid (W.heap.size ≤ g13) := by show _ ≤ _; rw [hga9]; exact HBc.out.size
            rw [← hwn, ← hga9]
            have HC := hHC
            clear hwn hga9 hbn0 hHC
            replace H1 := Lib.hid (H1.out.to hbn (Nat.le_refl _) hbn.size)
            have HBn := Lib.hid (HBc.out.trans (hbn.mono HBc.out.size))
            have hSn : wn.cell? ⟨g11, 0, none⟩ = some (.int .i64 x) ∧ wn.cell? ⟨g11, 1, none⟩ = some (.int .i64 y) := ⟨(hbn.cell (p := ⟨g11, 0, none⟩) hg_0).trans hS.1, (hbn.cell (p := ⟨g11, 1, none⟩) hg_0).trans hS.2⟩
            have hgn_0 := Nat.lt_of_lt_of_le hg_0 hbn.size
            refine hK.out _ _ hSn ?_
            clear hK K hS HBc hg_0
            try simp only [List.getElem_toArray, List.getElem_cons_succ, List.getElem_cons_zero, Act.put, List.setIfInBounds_toArray, List.set_cons_zero, List.set_cons_succ]
            have hS := hSn
            have HBc := HBn
            have hg_0 := hgn_0
            clear hSn HBn hbn hgn_0
            obtain ⟨wc, rfl⟩ : ∃ x : World, x = wn := ⟨_, rfl⟩
            refine HL.two 5 6 (o1 := _) (o2 := _) rfl rfl (by kernel_rfl) (by decide) (by decide) (by rfl) (by rfl) ?_ ?_
            · intro K hK
              go_simp
              refine (IOF_any y (by omega) (by omega) _).mono ?_
              rintro e wn ⟨ng2, A2, n2, c2, rfl, hH2, k2, hbn⟩
              have H2 := Lib.hid hH2
              clear hH2
              replace H1 := Lib.hid (H1.out.to hbn (Nat.le_refl _) hbn.size)
              replace HC := Lib.hid ((hbn.block g13 (blk_lt HC.out)).trans HC.out)
              have HBn := Lib.hid (HBc.out.trans (hbn.mono HBc.out.size))
              have hSn : wn.cell? ⟨g11, 0, none⟩ = some (.int .i64 x) ∧ wn.cell? ⟨g11, 1, none⟩ = some (.int .i64 y) := ⟨(hbn.cell (p := ⟨g11, 0, none⟩) hg_0).trans hS.1, (hbn.cell (p := ⟨g11, 1, none⟩) hg_0).trans hS.2⟩
              have hgn_0 := Nat.lt_of_lt_of_le hg_0 hbn.size
              refine hK.out _ _ hSn ?_
              clear hK K hS HBc hg_0
              try simp only [List.getElem_toArray, List.getElem_cons_succ, List.getElem_cons_zero, Act.put, List.setIfInBounds_toArray, List.set_cons_zero, List.set_cons_succ]
              have hS := hSn
              have HBc := HBn
              have hg_0 := hgn_0
              clear hSn HBn hbn hgn_0
              obtain ⟨wc, rfl⟩ : ∃ x : World, x = wn := ⟨_, rfl⟩
              refine HL.one (i := 6) (o := _) rfl (by kernel_rfl) (by decide) (by rfl) ?_
              intro K hK
              go_simp
              obtain ⟨wn, g12, hwn, hga9, hHA, hbn0, _⟩ := cell_new0 wc 36 #[.bool false, .slice none 0 0]
              have hbn := hbn0.out
              have HGg12 : Hid (W.heap.size ≤ g12) := by show _ ≤ _; rw [hga9]; exact HBc.out.size
              have hne_g13_g12 : g13 ≠ g12 := by have := blk_lt HC.out; omega
              rw [← hwn, ← hga9]
              have HA := hHA
              clear hwn hga9 hbn0 hHA
              replace H1 := Lib.hid (H1.out.to hbn (Nat.le_refl _) hbn.size)
              replace HC := Lib.hid ((hbn.block g13 (blk_lt HC.out)).trans HC.out)
              replace H2 := Lib.hid (H2.out.to hbn (Nat.le_refl _) hbn.size)
              have HBn := Lib.hid (HBc.out.trans (hbn.mono HBc.out.size))
              have hSn : wn.cell? ⟨g11, 0, none⟩ = some (.int .i64 x) ∧ wn.cell? ⟨g11, 1, none⟩ = some (.int .i64 y) := ⟨(hbn.cell (p := ⟨g11, 0, none⟩) hg_0).trans hS.1, (hbn.cell (p := ⟨g11, 1, none⟩) hg_0).trans hS.2⟩
              have hgn_0 := Nat.lt_of_lt_of_le hg_0 hbn.size
              refine hK.out _ _ hSn ?_
              clear hK K hS HBc hg_0
              try simp only [List.getElem_toArray, List.getElem_cons_succ, List.getElem_cons_zero, Act.put, List.setIfInBounds_toArray, List.set_cons_zero, List.set_cons_succ]
              have hS := hSn
              have HBc := HBn
              have hg_0 := hgn_0
              clear hSn HBn hbn hgn_0
              obtain ⟨wc, rfl⟩ : ∃ x : World, x = wn := ⟨_, rfl⟩
              obtain ⟨hr0, hr1, hf0, hf1⟩ := two_cells HA.out
              obtain ⟨ht0, ht1, hu0, hu1⟩ := two_cells HC.out
              refine HL.done (by kernel_rfl) ?_
              clear hS
              simp only [List.drop_succ_cons, List.drop_zero]
              have hne : g12 ≠ g13 := by first | assumption | (intro h; exact absurd h.symm (by assumption))
              have HA1 := Lib.hid (IBox.store HA.out H1.out (k := 2) (by omega))
              have HC0 := Lib.hid (box_far (box_far HC.out hne.symm 0 (.bool ng1)) hne.symm 1 (.slice A1 n1 c1))
              have H2' := Lib.hid (H2.out.box2 (g := g12) ⟨_, _, HA.out⟩ (by decide) (.bool ng1) (.slice A1 n1 c1))
              have HC1 := Lib.hid (IBox.store HC0.out H2'.out (k := 2) (by omega))
              have HA2 := Lib.hid (HA1.out.far (p := g13) ⟨_, _, HC0.out⟩ hne (.bool ng2) (.slice A2 n2 c2))
              have HBS := Lib.hid (box2_below (v0 := .bool ng2) (v1 := .slice A2 n2 c2) (box2_below (v0 := .bool ng1) (v1 := .slice A1 n1 c1) HBc.out HGg12.out) HGg13.out)
              go_wp2_with fail
              go_meet
              exact ⟨g12, g13, rfl, rfl, rfl, HA2, HC1, HBS⟩
              -- H1 H2 HA HC
            · intro K hK
              go_simp
              obtain ⟨wn, g12, hwn, hga9, hHA, hbn0, _⟩ := cell_new0 wc 36 #[.bool false, .slice none 0 0]
              have hbn := hbn0.out
              have HGg12 : Hid (W.heap.size ≤ g12) := by show _ ≤ _; rw [hga9]; exact HBc.out.size
              have hne_g13_g12 : g13 ≠ g12 := by have := blk_lt HC.out; omega
              rw [← hwn, ← hga9]
              have HA := hHA
              clear hwn hga9 hbn0 hHA
              replace H1 := Lib.hid (H1.out.to hbn (Nat.le_refl _) hbn.size)
              replace HC := Lib.hid ((hbn.block g13 (blk_lt HC.out)).trans HC.out)
              have HBn := Lib.hid (HBc.out.trans (hbn.mono HBc.out.size))
              have hSn : wn.cell? ⟨g11, 0, none⟩ = some (.int .i64 x) ∧ wn.cell? ⟨g11, 1, none⟩ = some (.int .i64 y) := ⟨(hbn.cell (p := ⟨g11, 0, none⟩) hg_0).trans hS.1, (hbn.cell (p := ⟨g11, 1, none⟩) hg_0).trans hS.2⟩
              have hgn_0 := Nat.lt_of_lt_of_le hg_0 hbn.size
              refine hK.out _ _ hSn ?_
              clear hK K hS HBc hg_0
              try simp only [List.getElem_toArray, List.getElem_cons_succ, List.getElem_cons_zero, Act.put, List.setIfInBounds_toArray, List.set_cons_zero, List.set_cons_succ]
              have hS := hSn
              have HBc := HBn
              have hg_0 := hgn_0
              clear hSn HBn hbn hgn_0
              obtain ⟨wc, rfl⟩ : ∃ x : World, x = wn := ⟨_, rfl⟩
              refine HL.one (i := 5) (o := _) rfl (by kernel_rfl) (by decide) (by rfl) ?_
              intro K hK
              go_simp
              refine (IOF_any y (by omega) (by omega) _).mono ?_
              rintro e wn ⟨ng2, A2, n2, c2, rfl, hH2, k2, hbn⟩
              have H2 := Lib.hid hH2
              clear hH2
              replace H1 := Lib.hid (H1.out.to hbn (Nat.le_refl _) hbn.size)
              replace HC := Lib.hid ((hbn.block g13 (blk_lt HC.out)).trans HC.out)
              replace HA := Lib.hid ((hbn.block g12 (blk_lt HA.out)).trans HA.out)
              have HBn := Lib.hid (HBc.out.trans (hbn.mono HBc.out.size))
              have hSn : wn.cell? ⟨g11, 0, none⟩ = some (.int .i64 x) ∧ wn.cell? ⟨g11, 1, none⟩ = some (.int .i64 y) := ⟨(hbn.cell (p := ⟨g11, 0, none⟩) hg_0).trans hS.1, (hbn.cell (p := ⟨g11, 1, none⟩) hg_0).trans hS.2⟩
              have hgn_0 := Nat.lt_of_lt_of_le hg_0 hbn.size
              refine hK.out _ _ hSn ?_
              clear hK K hS HBc hg_0
              try simp only [List.getElem_toArray, List.getElem_cons_succ, List.getElem_cons_zero, Act.put, List.setIfInBounds_toArray, List.set_cons_zero, List.set_cons_succ]
              have hS := hSn
              have HBc := HBn
              have hg_0 := hgn_0
              clear hSn HBn hbn hgn_0
              obtain ⟨wc, rfl⟩ : ∃ x : World, x = wn := ⟨_, rfl⟩
              obtain ⟨hr0, hr1, hf0, hf1⟩ := two_cells HA.out
              obtain ⟨ht0, ht1, hu0, hu1⟩ := two_cells HC.out
              refine HL.done (by kernel_rfl) ?_
              clear hS
              simp only [List.drop_succ_cons, List.drop_zero]
              have hne : g12 ≠ g13 := by first | assumption | (intro h; exact absurd h.symm (by assumption))
              have HA1 := Lib.hid (IBox.store HA.out H1.out (k := 2) (by omega))
              have HC0 := Lib.hid (box_far (box_far HC.out hne.symm 0 (.bool ng1)) hne.symm 1 (.slice A1 n1 c1))
              have H2' := Lib.hid (H2.out.box2 (g := g12) ⟨_, _, HA.out⟩ (by decide) (.bool ng1) (.slice A1 n1 c1))
              have HC1 := Lib.hid (IBox.store HC0.out H2'.out (k := 2) (by omega))
              have HA2 := Lib.hid (HA1.out.far (p := g13) ⟨_, _, HC0.out⟩ hne (.bool ng2) (.slice A2 n2 c2))
              have HBS := Lib.hid (box2_below (v0 := .bool ng2) (v1 := .slice A2 n2 c2) (box2_below (v0 := .bool ng1) (v1 := .slice A1 n1 c1) HBc.out HGg12.out) HGg13.out)
              go_wp2_with fail
              go_meet
              exact ⟨g12, g13, rfl, rfl, rfl, HA2, HC1, HBS⟩
              -- H1 H2 HA HC
        · intro K hK
          go_simp
          obtain ⟨wn, g12, hwn, hga9, hHA, hbn0, _⟩ := cell_new0 wc 36 #[.bool false, .slice none 0 0]
          have hbn := hbn0.out
          have HGg12 : Hid (W.heap.size ≤ g12) := by show _ ≤ _; rw [hga9]; exact HBc.out.size
          rw [← hwn, ← hga9]
          have HA := hHA
          clear hwn hga9 hbn0 hHA
          have HBn := Lib.hid (HBc.out.trans (hbn.mono HBc.out.size))
          have hSn : wn.cell? ⟨g11, 0, none⟩ = some (.int .i64 x) ∧ wn.cell? ⟨g11, 1, none⟩ = some (.int .i64 y) := ⟨(hbn.cell (p := ⟨g11, 0, none⟩) hg_0).trans hS.1, (hbn.cell (p := ⟨g11, 1, none⟩) hg_0).trans hS.2⟩
          have hgn_0 := Nat.lt_of_lt_of_le hg_0 hbn.size
          refine hK.out _ _ hSn ?_
          clear hK K hS HBc hg_0
          try simp only [List.getElem_toArray, List.getElem_cons_succ, List.getElem_cons_zero, Act.put, List.setIfInBounds_toArray, List.set_cons_zero, List.set_cons_succ]
          have hS := hSn
          have HBc := HBn
          have hg_0 := hgn_0
          clear hSn HBn hbn hgn_0
          obtain ⟨wc, rfl⟩ : ∃ x : World, x = wn := ⟨_, rfl⟩
          refine HL.two 2 7 (o1 := _) (o2 := _) rfl rfl (by kernel_rfl) (by decide) (by decide) (by rfl) (by rfl) ?_ ?_
          · intro K hK
            go_simp
            refine (IOF_any x (by omega) (by omega) _).mono ?_
            rintro e wn ⟨ng1, A1, n1, c1, rfl, hH1, k1, hbn⟩
            have H1 := Lib.hid hH1
            clear hH1
            replace HA := Lib.hid ((hbn.block g12 (blk_lt HA.out)).trans HA.out)
            have HBn := Lib.hid (HBc.out.trans (hbn.mono HBc.out.size))
            have hSn : wn.cell? ⟨g11, 0, none⟩ = some (.int .i64 x) ∧ wn.cell? ⟨g11, 1, none⟩ = some (.int .i64 y) := ⟨(hbn.cell (p := ⟨g11, 0, none⟩) hg_0).trans hS.1, (hbn.cell (p := ⟨g11, 1, none⟩) hg_0).trans hS.2⟩
            have hgn_0 := Nat.lt_of_lt_of_le hg_0 hbn.size
            refine hK.out _ _ hSn ?_
            clear hK K hS HBc hg_0
            try simp only [List.getElem_toArray, List.getElem_cons_succ, List.getElem_cons_zero, Act.put, List.setIfInBounds_toArray, List.set_cons_zero, List.set_cons_succ]
            have hS := hSn
            have HBc := HBn
            have hg_0 := hgn_0
            clear hSn HBn hbn hgn_0
            obtain ⟨wc, rfl⟩ : ∃ x : World, x = wn := ⟨_, rfl⟩
            refine HL.two 5 7 (o1 := _) (o2 := _) rfl rfl (by kernel_rfl) (by decide) (by decide) (by rfl) (by rfl) ?_ ?_
            · intro K hK
              go_simp
              refine (IOF_any y (by omega) (by omega) _).mono ?_
              rintro e wn ⟨ng2, A2, n2, c2, rfl, hH2, k2, hbn⟩
              have H2 := Lib.hid hH2
              clear hH2
              replace HA := Lib.hid ((hbn.block g12 (blk_lt HA.out)).trans HA.out)
              replace H1 := Lib.hid (H1.out.to hbn (Nat.le_refl _) hbn.size)
              have HBn := Lib.hid (HBc.out.trans (hbn.mono HBc.out.size))
              have hSn : wn.cell? ⟨g11, 0, none⟩ = some (.int .i64 x) ∧ wn.cell? ⟨g11, 1, none⟩ = some (.int .i64 y) := ⟨(hbn.cell (p := ⟨g11, 0, none⟩) hg_0).trans hS.1, (hbn.cell (p := ⟨g11, 1, none⟩) hg_0).trans hS.2⟩
              have hgn_0 := Nat.lt_of_lt_of_le hg_0 hbn.size
              refine hK.out _ _ hSn ?_
              clear hK K hS HBc hg_0
              try simp only [List.getElem_toArray, List.getElem_cons_succ, List.getElem_cons_zero, Act.put, List.setIfInBounds_toArray, List.set_cons_zero, List.set_cons_succ]
              have hS := hSn
              have HBc := HBn
              have hg_0 := hgn_0
              clear hSn HBn hbn hgn_0
              obtain ⟨wc, rfl⟩ : ∃ x : World, x = wn := ⟨_, rfl⟩
              refine HL.one (i := 7) (o := _) rfl (by kernel_rfl) (by decide) (by rfl) ?_
              intro K hK
              go_simp
              obtain ⟨wn, g13, hwn, hga9, hHC, hbn0, _⟩ := cell_new0 wc 36 #[.bool false, .slice none 0 0]
              have hbn := hbn0.out
              have HGg13 : Hid (W.heap.size ≤ g13) := by show _ ≤ _; rw [hga9]; exact HBc.out.size
              have hne_g12_g13 : g12 ≠ g13 := by have := blk_lt HA.out; omega
              rw [← hwn, ← hga9]
              have HC := hHC
              clear hwn hga9 hbn0 hHC
              replace HA := Lib.hid ((hbn.block g12 (blk_lt HA.out)).trans HA.out)
              replace H1 := Lib.hid (H1.out.to hbn (Nat.le_refl _) hbn.size)
              replace H2 := Lib.hid (H2.out.to hbn (Nat.le_refl _) hbn.size)
              have HBn := Lib.hid (HBc.out.trans (hbn.mono HBc.out.size))
              have hSn : wn.cell? ⟨g11, 0, none⟩ = some (.int .i64 x) ∧ wn.cell? ⟨g11, 1, none⟩ = some (.int .i64 y) := ⟨(hbn.cell (p := ⟨g11, 0, none⟩) hg_0).trans hS.1, (hbn.cell (p := ⟨g11, 1, none⟩) hg_0).trans hS.2⟩
              have hgn_0 := Nat.lt_of_lt_of_le hg_0 hbn.size
              refine hK.out _ _ hSn ?_
              clear hK K hS HBc hg_0
              try simp only [List.getElem_toArray, List.getElem_cons_succ, List.getElem_cons_zero, Act.put, List.setIfInBounds_toArray, List.set_cons_zero, List.set_cons_succ]
              have hS := hSn
              have HBc := HBn
              have hg_0 := hgn_0
              clear hSn HBn hbn hgn_0
              obtain ⟨wc, rfl⟩ : ∃ x : World, x = wn := ⟨_, rfl⟩
              obtain ⟨hr0, hr1, hf0, hf1⟩ := two_cells HA.out
              obtain ⟨ht0, ht1, hu0, hu1⟩ := two_cells HC.out
              refine HL.done (by kernel_rfl) ?_
              clear hS
              simp only [List.drop_succ_cons, List.drop_zero]
              have hne : g12 ≠ g13 := by first | assumption | (intro h; exact absurd h.symm (by assumption))
              have HA1 := Lib.hid (IBox.store HA.out H1.out (k := 2) (by omega))
              have HC0 := Lib.hid (box_far (box_far HC.out hne.symm 0 (.bool ng1)) hne.symm 1 (.slice A1 n1 c1))
              have H2' := Lib.hid (H2.out.box2 (g := g12) ⟨_, _, HA.out⟩ (by decide) (.bool ng1) (.slice A1 n1 c1))
              have HC1 := Lib.hid (IBox.store HC0.out H2'.out (k := 2) (by omega))
              have HA2 := Lib.hid (HA1.out.far (p := g13) ⟨_, _, HC0.out⟩ hne (.bool ng2) (.slice A2 n2 c2))
              have HBS := Lib.hid (box2_below (v0 := .bool ng2) (v1 := .slice A2 n2 c2) (box2_below (v0 := .bool ng1) (v1 := .slice A1 n1 c1) HBc.out HGg12.out) HGg13.out)
              go_wp2_with fail
              go_meet
              exact ⟨g12, g13, rfl, rfl, rfl, HA2, HC1, HBS⟩
              -- H1 H2 HA HC
            · intro K hK
              go_simp
              obtain ⟨wn, g13, hwn, hga9, hHC, hbn0, _⟩ := cell_new0 wc 36 #[.bool false, .slice none 0 0]
              have hbn := hbn0.out
              have HGg13 : Hid (W.heap.size ≤ g13) := by show _ ≤ _; rw [hga9]; exact HBc.out.size
              have hne_g12_g13 : g12 ≠ g13 := by have := blk_lt HA.out; omega
              rw [← hwn, ← hga9]
              have HC := hHC
              clear hwn hga9 hbn0 hHC
              replace HA := Lib.hid ((hbn.block g12 (blk_lt HA.out)).trans HA.out)
              replace H1 := Lib.hid (H1.out.to hbn (Nat.le_refl _) hbn.size)
              have HBn := Lib.hid (HBc.out.trans (hbn.mono HBc.out.size))
              have hSn : wn.cell? ⟨g11, 0, none⟩ = some (.int .i64 x) ∧ wn.cell? ⟨g11, 1, none⟩ = some (.int .i64 y) := ⟨(hbn.cell (p := ⟨g11, 0, none⟩) hg_0).trans hS.1, (hbn.cell (p := ⟨g11, 1, none⟩) hg_0).trans hS.2⟩
              have hgn_0 := Nat.lt_of_lt_of_le hg_0 hbn.size
              refine hK.out _ _ hSn ?_
              clear hK K hS HBc hg_0
              try simp only [List.getElem_toArray, List.getElem_cons_succ, List.getElem_cons_zero, Act.put, List.setIfInBounds_toArray, List.set_cons_zero, List.set_cons_succ]
              have hS := hSn
              have HBc := HBn
              have hg_0 := hgn_0
              clear hSn HBn hbn hgn_0
              obtain ⟨wc, rfl⟩ : ∃ x : World, x = wn := ⟨_, rfl⟩
              refine HL.one (i := 5) (o := _) rfl (by kernel_rfl) (by decide) (by rfl) ?_
              intro K hK
              go_simp
              refine (IOF_any y (by omega) (by omega) _).mono ?_
              rintro e wn ⟨ng2, A2, n2, c2, rfl, hH2, k2, hbn⟩
              have H2 := Lib.hid hH2
              clear hH2
              replace HA := Lib.hid ((hbn.block g12 (blk_lt HA.out)).trans HA.out)
              replace H1 := Lib.hid (H1.out.to hbn (Nat.le_refl _) hbn.size)
              replace HC := Lib.hid ((hbn.block g13 (blk_lt HC.out)).trans HC.out)
              have HBn := Lib.hid (HBc.out.trans (hbn.mono HBc.out.size))
              have hSn : wn.cell? ⟨g11, 0, none⟩ = some (.int .i64 x) ∧ wn.cell? ⟨g11, 1, none⟩ = some (.int .i64 y) := ⟨(hbn.cell (p := ⟨g11, 0, none⟩) hg_0).trans hS.1, (hbn.cell (p := ⟨g11, 1, none⟩) hg_0).trans hS.2⟩
              have hgn_0 := Nat.lt_of_lt_of_le hg_0 hbn.size
              refine hK.out _ _ hSn ?_
              clear hK K hS HBc hg_0
              try simp only [List.getElem_toArray, List.getElem_cons_succ, List.getElem_cons_zero, Act.put, List.setIfInBounds_toArray, List.set_cons_zero, List.set_cons_succ]
              have hS := hSn
              have HBc := HBn
              have hg_0 := hgn_0
              clear hSn HBn hbn hgn_0
              obtain ⟨wc, rfl⟩ : ∃ x : World, x = wn := ⟨_, rfl⟩
              obtain ⟨hr0, hr1, hf0, hf1⟩ := two_cells HA.out
              obtain ⟨ht0, ht1, hu0, hu1⟩ := two_cells HC.out
              refine HL.done (by kernel_rfl) ?_
              clear hS
              simp only [List.drop_succ_cons, List.drop_zero]
              have hne : g12 ≠ g13 := by first | assumption | (intro h; exact absurd h.symm (by assumption))
              have HA1 := Lib.hid (IBox.store HA.out H1.out (k := 2) (by omega))
              have HC0 := Lib.hid (box_far (box_far HC.out hne.symm 0 (.bool ng1)) hne.symm 1 (.slice A1 n1 c1))
              have H2' := Lib.hid (H2.out.box2 (g := g12) ⟨_, _, HA.out⟩ (by decide) (.bool ng1) (.slice A1 n1 c1))
              have HC1 := Lib.hid (IBox.store HC0.out H2'.out (k := 2) (by omega))
              have HA2 := Lib.hid (HA1.out.far (p := g13) ⟨_, _, HC0.out⟩ hne (.bool ng2) (.slice A2 n2 c2))
              have HBS := Lib.hid (box2_below (v0 := .bool ng2) (v1 := .slice A2 n2 c2) (box2_below (v0 := .bool ng1) (v1 := .slice A1 n1 c1) HBc.out HGg12.out) HGg13.out)
              go_wp2_with fail
              go_meet
              exact ⟨g12, g13, rfl, rfl, rfl, HA2, HC1, HBS⟩
              -- H1 H2 HA HC
          · intro K hK
            go_simp
            obtain ⟨wn, g13, hwn, hga9, hHC, hbn0, _⟩ := cell_new0 wc 36 #[.bool false, .slice none 0 0]
            have hbn := hbn0.out
            have HGg13 : Hid (W.heap.size ≤ g13) := by show _ ≤ _; rw [hga9]; exact HBc.out.size
            have hne_g12_g13 : g12 ≠ g13 := by have := blk_lt HA.out; omega
            rw [← hwn, ← hga9]
            have HC := hHC
            clear hwn hga9 hbn0 hHC
            replace HA := Lib.hid ((hbn.block g12 (blk_lt HA.out)).trans HA.out)
            have HBn := Lib.hid (HBc.out.trans (hbn.mono HBc.out.size))
            have hSn : wn.cell? ⟨g11, 0, none⟩ = some (.int .i64 x) ∧ wn.cell? ⟨g11, 1, none⟩ = some (.int .i64 y) := ⟨(hbn.cell (p := ⟨g11, 0, none⟩) hg_0).trans hS.1, (hbn.cell (p := ⟨g11, 1, none⟩) hg_0).trans hS.2⟩
            have hgn_0 := Nat.lt_of_lt_of_le hg_0 hbn.size
            refine hK.out _ _ hSn ?_
            clear hK K hS HBc hg_0
            try simp only [List.getElem_toArray, List.getElem_cons_succ, List.getElem_cons_zero, Act.put, List.setIfInBounds_toArray, List.set_cons_zero, List.set_cons_succ]
            have hS := hSn
            have HBc := HBn
            have hg_0 := hgn_0
            clear hSn HBn hbn hgn_0
            obtain ⟨wc, rfl⟩ : ∃ x : World, x = wn := ⟨_, rfl⟩
            refine HL.one (i := 2) (o := _) rfl (by kernel_rfl) (by decide) (by rfl) ?_
            intro K hK
            go_simp
            refine (IOF_any x (by omega) (by omega) _).mono ?_
            rintro e wn ⟨ng1, A1, n1, c1, rfl, hH1, k1, hbn⟩
            have H1 := Lib.hid hH1
            clear hH1
            replace HA := Lib.hid ((hbn.block g12 (blk_lt HA.out)).trans HA.out)
            replace HC := Lib.hid ((hbn.block g13 (blk_lt HC.out)).trans HC.out)
            have HBn := Lib.hid (HBc.out.trans (hbn.mono HBc.out.size))
            have hSn : wn.cell? ⟨g11, 0, none⟩ = some (.int .i64 x) ∧ wn.cell? ⟨g11, 1, none⟩ = some (.int .i64 y) := ⟨(hbn.cell (p := ⟨g11, 0, none⟩) hg_0).trans hS.1, (hbn.cell (p := ⟨g11, 1, none⟩) hg_0).trans hS.2⟩
            have hgn_0 := Nat.lt_of_lt_of_le hg_0 hbn.size
            refine hK.out _ _ hSn ?_
            clear hK K hS HBc hg_0
            try simp only [List.getElem_toArray, List.getElem_cons_succ, List.getElem_cons_zero, Act.put, List.setIfInBounds_toArray, List.set_cons_zero, List.set_cons_succ]
            have hS := hSn
            have HBc := HBn
            have hg_0 := hgn_0
            clear hSn HBn hbn hgn_0
            obtain ⟨wc, rfl⟩ : ∃ x : World, x = wn := ⟨_, rfl⟩
            refine HL.one (i := 5) (o := _) rfl (by kernel_rfl) (by decide) (by rfl) ?_
            intro K hK
            go_simp
            refine (IOF_any y (by omega) (by omega) _).mono ?_
            rintro e wn ⟨ng2, A2, n2, c2, rfl, hH2, k2, hbn⟩
            have H2 := Lib.hid hH2
            clear hH2
            replace HA := Lib.hid ((hbn.block g12 (blk_lt HA.out)).trans HA.out)
            replace HC := Lib.hid ((hbn.block g13 (blk_lt HC.out)).trans HC.out)
            replace H1 := Lib.hid (H1.out.to hbn (Nat.le_refl _) hbn.size)
            have HBn := Lib.hid (HBc.out.trans (hbn.mono HBc.out.size))
            have hSn : wn.cell? ⟨g11, 0, none⟩ = some (.int .i64 x) ∧ wn.cell? ⟨g11, 1, none⟩ = some (.int .i64 y) := ⟨(hbn.cell (p := ⟨g11, 0, none⟩) hg_0).trans hS.1, (hbn.cell (p := ⟨g11, 1, none⟩) hg_0).trans hS.2⟩
            have hgn_0 := Nat.lt_of_lt_of_le hg_0 hbn.size
            refine hK.out _ _ hSn ?_
            clear hK K hS HBc hg_0
            try simp only [List.getElem_toArray, List.getElem_cons_succ, List.getElem_cons_zero, Act.put, List.setIfInBounds_toArray, List.set_cons_zero, List.set_cons_succ]
            have hS := hSn
            have HBc := HBn
            have hg_0 := hgn_0
            clear hSn HBn hbn hgn_0
            obtain ⟨wc, rfl⟩ : ∃ x : World, x = wn := ⟨_, rfl⟩
            obtain ⟨hr0, hr1, hf0, hf1⟩ := two_cells HA.out
            obtain ⟨ht0, ht1, hu0, hu1⟩ := two_cells HC.out
            refine HL.done (by kernel_rfl) ?_
            clear hS
            simp only [List.drop_succ_cons, List.drop_zero]
            have hne : g12 ≠ g13 := by first | assumption | (intro h; exact absurd h.symm (by assumption))
            have HA1 := Lib.hid (IBox.store HA.out H1.out (k := 2) (by omega))
            have HC0 := Lib.hid (box_far (box_far HC.out hne.symm 0 (.bool ng1)) hne.symm 1 (.slice A1 n1 c1))
            have H2' := Lib.hid (H2.out.box2 (g := g12) ⟨_, _, HA.out⟩ (by decide) (.bool ng1) (.slice A1 n1 c1))
            have HC1 := Lib.hid (IBox.store HC0.out H2'.out (k := 2) (by omega))
            have HA2 := Lib.hid (HA1.out.far (p := g13) ⟨_, _, HC0.out⟩ hne (.bool ng2) (.slice A2 n2 c2))
            have HBS := Lib.hid (box2_below (v0 := .bool ng2) (v1 := .slice A2 n2 c2) (box2_below (v0 := .bool ng1) (v1 := .slice A1 n1 c1) HBc.out HGg12.out) HGg13.out)
            go_wp2_with fail
            go_meet
            exact ⟨g12, g13, rfl, rfl, rfl, HA2, HC1, HBS⟩
            -- H1 H2 HA HC
        · intro K hK
          go_simp
          obtain ⟨wn, g13, hwn, hga9, hHC, hbn0, _⟩ := cell_new0 wc 36 #[.bool false, .slice none 0 0]
          have hbn := hbn0.out
          have HGg13 : Hid (W.heap.size ≤ g13) := by show _ ≤ _; rw [hga9]; exact HBc.out.size
          rw [← hwn, ← hga9]
          have HC := hHC
          clear hwn hga9 hbn0 hHC
          have HBn := Lib.hid (HBc.out.trans (hbn.mono HBc.out.size))
          have hSn : wn.cell? ⟨g11, 0, none⟩ = some (.int .i64 x) ∧ wn.cell? ⟨g11, 1, none⟩ = some (.int .i64 y) := ⟨(hbn.cell (p := ⟨g11, 0, none⟩) hg_0).trans hS.1, (hbn.cell (p := ⟨g11, 1, none⟩) hg_0).trans hS.2⟩
          have hgn_0 := Nat.lt_of_lt_of_le hg_0 hbn.size
          refine hK.out _ _ hSn ?_
          clear hK K hS HBc hg_0
          try simp only [List.getElem_toArray, List.getElem_cons_succ, List.getElem_cons_zero, Act.put, List.setIfInBounds_toArray, List.set_cons_zero, List.set_cons_succ]
          have hS := hSn
          have HBc := HBn
          have hg_0 := hgn_0
          clear hSn HBn hbn hgn_0
          obtain ⟨wc, rfl⟩ : ∃ x : World, x = wn := ⟨_, rfl⟩
          refine HL.two 2 6 (o1 := _) (o2 := _) rfl rfl (by kernel_rfl) (by decide) (by decide) (by rfl) (by rfl) ?_ ?_
          · intro K hK
            go_simp
            refine (IOF_any x (by omega) (by omega) _).mono ?_
            rintro e wn ⟨ng1, A1, n1, c1, rfl, hH1, k1, hbn⟩
            have H1 := Lib.hid hH1
            clear hH1
            replace HC := Lib.hid ((hbn.block g13 (blk_lt HC.out)).trans HC.out)
            have HBn := Lib.hid (HBc.out.trans (hbn.mono HBc.out.size))
            have hSn : wn.cell? ⟨g11, 0, none⟩ = some (.int .i64 x) ∧ wn.cell? ⟨g11, 1, none⟩ = some (.int .i64 y) := ⟨(hbn.cell (p := ⟨g11, 0, none⟩) hg_0).trans hS.1, (hbn.cell (p := ⟨g11, 1, none⟩) hg_0).trans hS.2⟩
            have hgn_0 := Nat.lt_of_lt_of_le hg_0 hbn.size
            refine hK.out _ _ hSn ?_
            clear hK K hS HBc hg_0
            try simp only [List.getElem_toArray, List.getElem_cons_succ, List.getElem_cons_zero, Act.put, List.setIfInBounds_toArray, List.set_cons_zero, List.set_cons_succ]
            have hS := hSn
            have HBc := HBn
            have hg_0 := hgn_0
            clear hSn HBn hbn hgn_0
            obtain ⟨wc, rfl⟩ : ∃ x : World, x = wn := ⟨_, rfl⟩
            refine HL.two 5 6 (o1 := _) (o2 := _) rfl rfl (by kernel_rfl) (by decide) (by decide) (by rfl) (by rfl) ?_ ?_
            · intro K hK
              go_simp
              refine (IOF_any y (by omega) (by omega) _).mono ?_
              rintro e wn ⟨ng2, A2, n2, c2, rfl, hH2, k2, hbn⟩
              have H2 := Lib.hid hH2
              clear hH2
              replace HC := Lib.hid ((hbn.block g13 (blk_lt HC.out)).trans HC.out)
              replace H1 := Lib.hid (H1.out.to hbn (Nat.le_refl _) hbn.size)
              have HBn := Lib.hid (HBc.out.trans (hbn.mono HBc.out.size))
              have hSn : wn.cell? ⟨g11, 0, none⟩ = some (.int .i64 x) ∧ wn.cell? ⟨g11, 1, none⟩ = some (.int .i64 y) := ⟨(hbn.cell (p := ⟨g11, 0, none⟩) hg_0).trans hS.1, (hbn.cell (p := ⟨g11, 1, none⟩) hg_0).trans hS.2⟩
              have hgn_0 := Nat.lt_of_lt_of_le hg_0 hbn.size
              refine hK.out _ _ hSn ?_
              clear hK K hS HBc hg_0
              try simp only [List.getElem_toArray, List.getElem_cons_succ, List.getElem_cons_zero, Act.put, List.setIfInBounds_toArray, List.set_cons_zero, List.set_cons_succ]
              have hS := hSn
              have HBc := HBn
              have hg_0 := hgn_0
              clear hSn HBn hbn hgn_0
              obtain ⟨wc, rfl⟩ : ∃ x : World, x = wn := ⟨_, rfl⟩
              refine HL.one (i := 6) (o := _) rfl (by kernel_rfl) (by decide) (by rfl) ?_
              intro K hK
              go_simp
              obtain ⟨wn, g12, hwn, hga9, hHA, hbn0, _⟩ := cell_new0 wc 36 #[.bool false, .slice none 0 0]
              have hbn := hbn0.out
              have HGg12 : Hid (W.heap.size ≤ g12) := by show _ ≤ _; rw [hga9]; exact HBc.out.size
              have hne_g13_g12 : g13 ≠ g12 := by have := blk_lt HC.out; omega
              rw [← hwn, ← hga9]
              have HA := hHA
              clear hwn hga9 hbn0 hHA
              replace HC := Lib.hid ((hbn.block g13 (blk_lt HC.out)).trans HC.out)
              replace H1 := Lib.hid (H1.out.to hbn (Nat.le_refl _) hbn.size)
              replace H2 := Lib.hid (H2.out.to hbn (Nat.le_refl _) hbn.size)
              have HBn := Lib.hid (HBc.out.trans (hbn.mono HBc.out.size))
              have hSn : wn.cell? ⟨g11, 0, none⟩ = some (.int .i64 x) ∧ wn.cell? ⟨g11, 1, none⟩ = some (.int .i64 y) := ⟨(hbn.cell (p := ⟨g11, 0, none⟩) hg_0).trans hS.1, (hbn.cell (p := ⟨g11, 1, none⟩) hg_0).trans hS.2⟩
              have hgn_0 := Nat.lt_of_lt_of_le hg_0 hbn.size
              refine hK.out _ _ hSn ?_
              clear hK K hS HBc hg_0
              try simp only [List.getElem_toArray, List.getElem_cons_succ, List.getElem_cons_zero, Act.put, List.setIfInBounds_toArray, List.set_cons_zero, List.set_cons_succ]
              have hS := hSn
              have HBc := HBn
              have hg_0 := hgn_0
              clear hSn HBn hbn hgn_0
              obtain ⟨wc, rfl⟩ : ∃ x : World, x = wn := ⟨_, rfl⟩
              obtain ⟨hr0, hr1, hf0, hf1⟩ := two_cells HA.out
              obtain ⟨ht0, ht1, hu0, hu1⟩ := two_cells HC.out
              refine HL.done (by kernel_rfl) ?_
              clear hS
              simp only [List.drop_succ_cons, List.drop_zero]
              have hne : g12 ≠ g13 := by first | assumption | (intro h; exact absurd h.symm (by assumption))
              have HA1 := Lib.hid (IBox.store HA.out H1.out (k := 2) (by omega))
              have HC0 := Lib.hid (box_far (box_far HC.out hne.symm 0 (.bool ng1)) hne.symm 1 (.slice A1 n1 c1))
              have H2' := Lib.hid (H2.out.box2 (g := g12) ⟨_, _, HA.out⟩ (by decide) (.bool ng1) (.slice A1 n1 c1))
              have HC1 := Lib.hid (IBox.store HC0.out H2'.out (k := 2) (by omega))
              have HA2 := Lib.hid (HA1.out.far (p := g13) ⟨_, _, HC0.out⟩ hne (.bool ng2) (.slice A2 n2 c2))
              have HBS := Lib.hid (box2_below (v0 := .bool ng2) (v1 := .slice A2 n2 c2) (box2_below (v0 := .bool ng1) (v1 := .slice A1 n1 c1) HBc.out HGg12.out) HGg13.out)
              go_wp2_with fail
              go_meet
              exact ⟨g12, g13, rfl, rfl, rfl, HA2, HC1, HBS⟩
              -- H1 H2 HA HC
            · intro K hK
              go_simp
              obtain ⟨wn, g12, hwn, hga9, hHA, hbn0, _⟩ := cell_new0 wc 36 #[.bool false, .slice none 0 0]
              have hbn := hbn0.out
              have HGg12 : Hid (W.heap.size ≤ g12) := by show _ ≤ _; rw [hga9]; exact HBc.out.size
              have hne_g13_g12 : g13 ≠ g12 := by have := blk_lt HC.out; omega
              rw [← hwn, ← hga9]
              have HA := hHA
              clear hwn hga9 hbn0 hHA
              replace HC := Lib.hid ((hbn.block g13 (blk_lt HC.out)).trans HC.out)
              replace H1 := Lib.hid (H1.out.to hbn (Nat.le_refl _) hbn.size)
              have HBn := Lib.hid (HBc.out.trans (hbn.mono HBc.out.size))
              have hSn : wn.cell? ⟨g11, 0, none⟩ = some (.int .i64 x) ∧ wn.cell? ⟨g11, 1, none⟩ = some (.int .i64 y) := ⟨(hbn.cell (p := ⟨g11, 0, none⟩) hg_0).trans hS.1, (hbn.cell (p := ⟨g11, 1, none⟩) hg_0).trans hS.2⟩
              have hgn_0 := Nat.lt_of_lt_of_le hg_0 hbn.size
              refine hK.out _ _ hSn ?_
              clear hK K hS HBc hg_0
              try simp only [List.getElem_toArray, List.getElem_cons_succ, List.getElem_cons_zero, Act.put, List.setIfInBounds_toArray, List.set_cons_zero, List.set_cons_succ]
              have hS := hSn
              have HBc := HBn
              have hg_0 := hgn_0
              clear hSn HBn hbn hgn_0
              obtain ⟨wc, rfl⟩ : ∃ x : World, x = wn := ⟨_, rfl⟩
              refine HL.one (i := 5) (o := _) rfl (by kernel_rfl) (by decide) (by rfl) ?_
              intro K hK
              go_simp
              refine (IOF_any y (by omega) (by omega) _).mono ?_
              rintro e wn ⟨ng2, A2, n2, c2, rfl, hH2, k2, hbn⟩
              have H2 := Lib.hid hH2
              clear hH2
              replace HC := Lib.hid ((hbn.block g13 (blk_lt HC.out)).trans HC.out)
              replace H1 := Lib.hid (H1.out.to hbn (Nat.le_refl _) hbn.size)
              replace HA := Lib.hid ((hbn.block g12 (blk_lt HA.out)).trans HA.out)
              have HBn := Lib.hid (HBc.out.trans (hbn.mono HBc.out.size))
              have hSn : wn.cell? ⟨g11, 0, none⟩ = some (.int .i64 x) ∧ wn.cell? ⟨g11, 1, none⟩ = some (.int .i64 y) := ⟨(hbn.cell (p := ⟨g11, 0, none⟩) hg_0).trans hS.1, (hbn.cell (p := ⟨g11, 1, none⟩) hg_0).trans hS.2⟩
              have hgn_0 := Nat.lt_of_lt_of_le hg_0 hbn.size
              refine hK.out _ _ hSn ?_
              clear hK K hS HBc hg_0
              try simp only [List.getElem_toArray, List.getElem_cons_succ, List.getElem_cons_zero, Act.put, List.setIfInBounds_toArray, List.set_cons_zero, List.set_cons_succ]
              have hS := hSn
              have HBc := HBn
              have hg_0 := hgn_0
              clear hSn HBn hbn hgn_0
              obtain ⟨wc, rfl⟩ : ∃ x : World, x = wn := ⟨_, rfl⟩
              obtain ⟨hr0, hr1, hf0, hf1⟩ := two_cells HA.out
              obtain ⟨ht0, ht1, hu0, hu1⟩ := two_cells HC.out
              refine HL.done (by kernel_rfl) ?_
              clear hS
              simp only [List.drop_succ_cons, List.drop_zero]
              have hne : g12 ≠ g13 := by first | assumption | (intro h; exact absurd h.symm (by assumption))
              have HA1 := Lib.hid (IBox.store HA.out H1.out (k := 2) (by omega))
              have HC0 := Lib.hid (box_far (box_far HC.out hne.symm 0 (.bool ng1)) hne.symm 1 (.slice A1 n1 c1))
              have H2' := Lib.hid (H2.out.box2 (g := g12) ⟨_, _, HA.out⟩ (by decide) (.bool ng1) (.slice A1 n1 c1))
              have HC1 := Lib.hid (IBox.store HC0.out H2'.out (k := 2) (by omega))
              have HA2 := Lib.hid (HA1.out.far (p := g13) ⟨_, _, HC0.out⟩ hne (.bool ng2) (.slice A2 n2 c2))
              have HBS := Lib.hid (box2_below (v0 := .bool ng2) (v1 := .slice A2 n2 c2) (box2_below (v0 := .bool ng1) (v1 := .slice A1 n1 c1) HBc.out HGg12.out) HGg13.out)
              go_wp2_with fail
              go_meet
              exact ⟨g12, g13, rfl, rfl, rfl, HA2, HC1, HBS⟩
              -- H1 H2 HA HC
          · intro K hK
            go_simp
            obtain ⟨wn, g12, hwn, hga9, hHA, hbn0, _⟩ := cell_new0 wc 36 #[.bool false, .slice none 0 0]
            have hbn := hbn0.out
            have HGg12 : Hid (W.heap.size ≤ g12) := by show _ ≤ _; rw [hga9]; exact HBc.out.size
            have hne_g13_g12 : g13 ≠ g12 := by have := blk_lt HC.out; omega
            rw [← hwn, ← hga9]
            have HA := hHA
            clear hwn hga9 hbn0 hHA
            replace HC := Lib.hid ((hbn.block g13 (blk_lt HC.out)).trans HC.out)
            have HBn := Lib.hid (HBc.out.trans (hbn.mono HBc.out.size))
            have hSn : wn.cell? ⟨g11, 0, none⟩ = some (.int .i64 x) ∧ wn.cell? ⟨g11, 1, none⟩ = some (.int .i64 y) := ⟨(hbn.cell (p := ⟨g11, 0, none⟩) hg_0).trans hS.1, (hbn.cell (p := ⟨g11, 1, none⟩) hg_0).trans hS.2⟩
            have hgn_0 := Nat.lt_of_lt_of_le hg_0 hbn.size
            refine hK.out _ _ hSn ?_
            clear hK K hS HBc hg_0
            try simp only [List.getElem_toArray, List.getElem_cons_succ, List.getElem_cons_zero, Act.put, List.setIfInBounds_toArray, List.set_cons_zero, List.set_cons_succ]
            have hS := hSn
            have HBc := HBn
            have hg_0 := hgn_0
            clear hSn HBn hbn hgn_0
            obtain ⟨wc, rfl⟩ : ∃ x : World, x = wn := ⟨_, rfl⟩
            refine HL.one (i := 2) (o := _) rfl (by kernel_rfl) (by decide) (by rfl) ?_
            intro K hK
            go_simp
            refine (IOF_any x (by omega) (by omega) _).mono ?_
            rintro e wn ⟨ng1, A1, n1, c1, rfl, hH1, k1, hbn⟩
            have H1 := Lib.hid hH1
            clear hH1
            replace HC := Lib.hid ((hbn.block g13 (blk_lt HC.out)).trans HC.out)
            replace HA := Lib.hid ((hbn.block g12 (blk_lt HA.out)).trans HA.out)
            have HBn := Lib.hid (HBc.out.trans (hbn.mono HBc.out.size))
            have hSn : wn.cell? ⟨g11, 0, none⟩ = some (.int .i64 x) ∧ wn.cell? ⟨g11, 1, none⟩ = some (.int .i64 y) := ⟨(hbn.cell (p := ⟨g11, 0, none⟩) hg_0).trans hS.1, (hbn.cell (p := ⟨g11, 1, none⟩) hg_0).trans hS.2⟩
            have hgn_0 := Nat.lt_of_lt_of_le hg_0 hbn.size
            refine hK.out _ _ hSn ?_
            clear hK K hS HBc hg_0
            try simp only [List.getElem_toArray, List.getElem_cons_succ, List.getElem_cons_zero, Act.put, List.setIfInBounds_toArray, List.set_cons_zero, List.set_cons_succ]
            have hS := hSn
            have HBc := HBn
            have hg_0 := hgn_0
            clear hSn HBn hbn hgn_0
            obtain ⟨wc, rfl⟩ : ∃ x : World, x = wn := ⟨_, rfl⟩
            refine HL.one (i := 5) (o := _) rfl (by kernel_rfl) (by decide) (by rfl) ?_
            intro K hK
            go_simp
            refine (IOF_any y (by omega) (by omega) _).mono ?_
            rintro e wn ⟨ng2, A2, n2, c2, rfl, hH2, k2, hbn⟩
            have H2 := Lib.hid hH2
            clear hH2
            replace HC := Lib.hid ((hbn.block g13 (blk_lt HC.out)).trans HC.out)
            replace HA := Lib.hid ((hbn.block g12 (blk_lt HA.out)).trans HA.out)
            replace H1 := Lib.hid (H1.out.to hbn (Nat.le_refl _) hbn.size)
            have HBn := Lib.hid (HBc.out.trans (hbn.mono HBc.out.size))
            have hSn : wn.cell? ⟨g11, 0, none⟩ = some (.int .i64 x) ∧ wn.cell? ⟨g11, 1, none⟩ = some (.int .i64 y) := ⟨(hbn.cell (p := ⟨g11, 0, none⟩) hg_0).trans hS.1, (hbn.cell (p := ⟨g11, 1, none⟩) hg_0).trans hS.2⟩
            have hgn_0 := Nat.lt_of_lt_of_le hg_0 hbn.size
            refine hK.out _ _ hSn ?_
            clear hK K hS HBc hg_0
            try simp only [List.getElem_toArray, List.getElem_cons_succ, List.getElem_cons_zero, Act.put, List.setIfInBounds_toArray, List.set_cons_zero, List.set_cons_succ]
            have hS := hSn
            have HBc := HBn
            have hg_0 := hgn_0
            clear hSn HBn hbn hgn_0
            obtain ⟨wc, rfl⟩ : ∃ x : World, x = wn := ⟨_, rfl⟩
            obtain ⟨hr0, hr1, hf0, hf1⟩ := two_cells HA.out
            obtain ⟨ht0, ht1, hu0, hu1⟩ := two_cells HC.out
            refine HL.done (by kernel_rfl) ?_
            clear hS
            simp only [List.drop_succ_cons, List.drop_zero]
            have hne : g12 ≠ g13 := by first | assumption | (intro h; exact absurd h.symm (by assumption))
            have HA1 := Lib.hid (IBox.store HA.out H1.out (k := 2) (by omega))
            have HC0 := Lib.hid (box_far (box_far HC.out hne.symm 0 (.bool ng1)) hne.symm 1 (.slice A1 n1 c1))
            have H2' := Lib.hid (H2.out.box2 (g := g12) ⟨_, _, HA.out⟩ (by decide) (.bool ng1) (.slice A1 n1 c1))
            have HC1 := Lib.hid (IBox.store HC0.out H2'.out (k := 2) (by omega))
            have HA2 := Lib.hid (HA1.out.far (p := g13) ⟨_, _, HC0.out⟩ hne (.bool ng2) (.slice A2 n2 c2))
            have HBS := Lib.hid (box2_below (v0 := .bool ng2) (v1 := .slice A2 n2 c2) (box2_below (v0 := .bool ng1) (v1 := .slice A1 n1 c1) HBc.out HGg12.out) HGg13.out)
            go_wp2_with fail
            go_meet
            exact ⟨g12, g13, rfl, rfl, rfl, HA2, HC1, HBS⟩
            -- H1 H2 HA HC
      case rest =>
      obtain ⟨g12, g13, rfl, rfl, rfl, I12, I13, HBW9⟩ := hcut
      replace I6 := Lib.hid (I6.out.below HBW9.out)
      replace I7 := Lib.hid (I7.out.below HBW9.out)
      replace I8 := Lib.hid (I8.out.below HBW9.out)
      replace I9 := Lib.hid (I9.out.below HBW9.out)
      replace I5 := Lib.hid (I5.out.below HBW9.out)
      have HBA0 := Lib.hid (HBA1.out.trans (HBW9.out.mono HBA1.out.size))
      clear HBW9 HBA1 HPB p0 p1
      obtain ⟨W, rfl⟩ : ∃ x : World, x = wc := ⟨_, rfl⟩
      obtain ⟨ngX, AX, nX, cX, bX, hX, kX⟩ := I6.out
      obtain ⟨ngY, AY, nY, cY, bY, hY, kY⟩ := I7.out
      obtain ⟨ngP, AP, nP, cP, bP, hP, kP⟩ := I8.out
      obtain ⟨ngQ, AQ, nQ, cQ, bQ, hQ, kQ⟩ := I9.out
      obtain ⟨ngA, AA, nA, cA, bA, hA, kA⟩ := I12.out
      obtain ⟨ngB, AB, nB, cB, bB, hB9, kB⟩ := I13.out
      have HBX := Lib.hid bX
      have HBY := Lib.hid bY
      have HBP := Lib.hid bP
      have HBQ := Lib.hid bQ
      have HBA := Lib.hid bA
      have HBB := Lib.hid bB
      have HX := Lib.hid hX
      have HY := Lib.hid hY
      have HP := Lib.hid hP
      have HQ := Lib.hid hQ
      have HA := Lib.hid hA
      have HB := Lib.hid hB9
      obtain ⟨qX0, qX1, _, _⟩ := two_cells bX
      obtain ⟨qY0, qY1, _, _⟩ := two_cells bY
      obtain ⟨qP0, qP1, _, _⟩ := two_cells bP
      obtain ⟨qQ0, qQ1, _, _⟩ := two_cells bQ
      obtain ⟨qA0, qA1, _, _⟩ := two_cells bA
      obtain ⟨qB0, qB1, _, _⟩ := two_cells bB
      clear bX bY bP bQ bA bB hX hY hP hQ hA hB9 I6 I7 I8 I9 I12 I13
      go_upto_region 10 with (fail)
      refine wp_region_head 16 (fun x9 => x9.cell? ⟨g6, 0, none⟩ = some (.bool ngX) ∧ x9.cell? ⟨g6, 1, none⟩ = some (.slice AX nX cX) ∧ x9.cell? ⟨g7, 0, none⟩ = some (.bool ngY) ∧ x9.cell? ⟨g7, 1, none⟩ = some (.slice AY nY cY) ∧ x9.cell? ⟨g8, 0, none⟩ = some (.bool ngP) ∧ x9.cell? ⟨g8, 1, none⟩ = some (.slice AP nP cP) ∧ x9.cell? ⟨g9, 0, none⟩ = some (.bool ngQ) ∧ x9.cell? ⟨g9, 1, none⟩ = some (.slice AQ nQ cQ) ∧ x9.cell? ⟨g12, 0, none⟩ = some (.bool ngA) ∧ x9.cell? ⟨g12, 1, none⟩ = some (.slice AA nA cA) ∧ x9.cell? ⟨g13, 0, none⟩ = some (.bool ngB) ∧ x9.cell? ⟨g13, 1, none⟩ = some (.slice AB nB cB)) (by kernel_rfl) (by kernel_rfl) ?_
      obtain ⟨wc, hwc⟩ : ∃ x : World, x = W.drew := ⟨_, rfl⟩
      have hbn : Below W.heap.size W W.drew := (Below.refl _ _).drew
      have HX := Lib.hid (HX.out.to hbn (Nat.le_refl _) hbn.size)
      have HY := Lib.hid (HY.out.to hbn (Nat.le_refl _) hbn.size)
      have HP := Lib.hid (HP.out.to hbn (Nat.le_refl _) hbn.size)
      have HQ := Lib.hid (HQ.out.to hbn (Nat.le_refl _) hbn.size)
      have HA := Lib.hid (HA.out.to hbn (Nat.le_refl _) hbn.size)
      have HB := Lib.hid (HB.out.to hbn (Nat.le_refl _) hbn.size)
      clear hbn
      have HBc : Hid (Below W.heap.size W wc) := by show Below _ _ _; rw [hwc]; exact (Below.refl _ _).drew
      have hS : wc.cell? ⟨g6, 0, none⟩ = some (.bool ngX) ∧ wc.cell? ⟨g6, 1, none⟩ = some (.slice AX nX cX) ∧ wc.cell? ⟨g7, 0, none⟩ = some (.bool ngY) ∧ wc.cell? ⟨g7, 1, none⟩ = some (.slice AY nY cY) ∧ wc.cell? ⟨g8, 0, none⟩ = some (.bool ngP) ∧ wc.cell? ⟨g8, 1, none⟩ = some (.slice AP nP cP) ∧ wc.cell? ⟨g9, 0, none⟩ = some (.bool ngQ) ∧ wc.cell? ⟨g9, 1, none⟩ = some (.slice AQ nQ cQ) ∧ wc.cell? ⟨g12, 0, none⟩ = some (.bool ngA) ∧ wc.cell? ⟨g12, 1, none⟩ = some (.slice AA nA cA) ∧ wc.cell? ⟨g13, 0, none⟩ = some (.bool ngB) ∧ wc.cell? ⟨g13, 1, none⟩ = some (.slice AB nB cB) := by rw [hwc]; exact ⟨qX0, qX1, qY0, qY1, qP0, qP1, qQ0, qQ1, qA0, qA1, qB0, qB1⟩
      have hg_0 : g6 < wc.heap.size := by rw [hwc]; exact blk_lt HBX.out
      have hg_1 : g7 < wc.heap.size := by rw [hwc]; exact blk_lt HBY.out
      have hg_2 : g8 < wc.heap.size := by rw [hwc]; exact blk_lt HBP.out
      have hg_3 : g9 < wc.heap.size := by rw [hwc]; exact blk_lt HBQ.out
      have hg_4 : g12 < wc.heap.size := by rw [hwc]; exact blk_lt HBA.out
      have hg_5 : g13 < wc.heap.size := by rw [hwc]; exact blk_lt HBB.out
      rw [← hwc] at HX HY HP HQ HA HB
      rw [← hwc]
      clear hwc
      refine HL.take (i := 0) (oi := _) (v := ?_) rfl (by kernel_rfl) (by kernel_rfl) (by decide) (fun _ _ _ h => h) (Or.inl ⟨by rfl, ?_⟩) hS ?_
      rotate_left
      · intro wz hwz
        try dsimp only at hwz
        go_simp
        try with_reducible rfl
      simp only [List.getElem_toArray, List.getElem_cons_succ, List.getElem_cons_zero, Act.put, List.setIfInBounds_toArray, List.set_cons_zero, List.set_cons_succ]
      refine HL.take (i := 1) (oi := _) (v := ?_) rfl (by kernel_rfl) (by kernel_rfl) (by decide) (fun _ _ _ h => h) (Or.inl ⟨by rfl, ?_⟩) hS ?_
      rotate_left
      · intro wz hwz
        try dsimp only at hwz
        go_simp
        try with_reducible rfl
      simp only [List.getElem_toArray, List.getElem_cons_succ, List.getElem_cons_zero, Act.put, List.setIfInBounds_toArray, List.set_cons_zero, List.set_cons_succ]
      refine HL.take (i := 3) (oi := _) (v := ?_) rfl (by kernel_rfl) (by kernel_rfl) (by decide) (fun _ _ _ h => h) (Or.inl ⟨by rfl, ?_⟩) hS ?_
      rotate_left
      · intro wz hwz
        try dsimp only at hwz
        go_simp
        try with_reducible rfl
      simp only [List.getElem_toArray, List.getElem_cons_succ, List.getElem_cons_zero, Act.put, List.setIfInBounds_toArray, List.set_cons_zero, List.set_cons_succ]
      refine HL.take (i := 4) (oi := _) (v := ?_) rfl (by kernel_rfl) (by kernel_rfl) (by decide) (fun _ _ _ h => h) (Or.inl ⟨by rfl, ?_⟩) hS ?_
      rotate_left
      · intro wz hwz
        try dsimp only at hwz
        go_simp
        try with_reducible rfl
      simp only [List.getElem_toArray, List.getElem_cons_succ, List.getElem_cons_zero, Act.put, List.setIfInBounds_toArray, List.set_cons_zero, List.set_cons_succ]
      refine HL.take (i := 6) (oi := _) (v := ?_) rfl (by kernel_rfl) (by kernel_rfl) (by decide) (fun _ _ _ h => h) (Or.inl ⟨by rfl, ?_⟩) hS ?_
      rotate_left
      · intro wz hwz
        try dsimp only at hwz
        go_simp
        try with_reducible rfl
      simp only [List.getElem_toArray, List.getElem_cons_succ, List.getElem_cons_zero, Act.put, List.setIfInBounds_toArray, List.set_cons_zero, List.set_cons_succ]
      refine HL.take (i := 7) (oi := _) (v := ?_) rfl (by kernel_rfl) (by kernel_rfl) (by decide) (fun _ _ _ h => h) (Or.inl ⟨by rfl, ?_⟩) hS ?_
      rotate_left
      · intro wz hwz
        try dsimp only at hwz
        go_simp
        try with_reducible rfl
      simp only [List.getElem_toArray, List.getElem_cons_succ, List.getElem_cons_zero, Act.put, List.setIfInBounds_toArray, List.set_cons_zero, List.set_cons_succ]
      refine HL.take (i := 8) (oi := _) (v := ?_) rfl (by kernel_rfl) (by kernel_rfl) (by decide) (fun _ _ _ h => h) (Or.inl ⟨by rfl, ?_⟩) hS ?_
      rotate_left
      · intro wz hwz
        try dsimp only at hwz
        go_simp
        try with_reducible rfl
      simp only [List.getElem_toArray, List.getElem_cons_succ, List.getElem_cons_zero, Act.put, List.setIfInBounds_toArray, List.set_cons_zero, List.set_cons_succ]
      refine HL.take (i := 11) (oi := _) (v := ?_) rfl (by kernel_rfl) (by kernel_rfl) (by decide) (fun _ _ _ h => h) (Or.inl ⟨by rfl, ?_⟩) hS ?_
      rotate_left
      · intro wz hwz
        try dsimp only at hwz
        go_simp
        try with_reducible rfl
      simp only [List.getElem_toArray, List.getElem_cons_succ, List.getElem_cons_zero, Act.put, List.setIfInBounds_toArray, List.set_cons_zero, List.set_cons_succ]
      refine HL.take (i := 12) (oi := _) (v := ?_) rfl (by kernel_rfl) (by kernel_rfl) (by decide) (fun _ _ _ h => h) (Or.inl ⟨by rfl, ?_⟩) hS ?_
      rotate_left
      · intro wz hwz
        try dsimp only at hwz
        go_simp
        try with_reducible rfl
      simp only [List.getElem_toArray, List.getElem_cons_succ, List.getElem_cons_zero, Act.put, List.setIfInBounds_toArray, List.set_cons_zero, List.set_cons_succ]
      refine HL.take (i := 13) (oi := _) (v := ?_) rfl (by kernel_rfl) (by kernel_rfl) (by decide) (fun _ _ _ h => h) (Or.inl ⟨by rfl, ?_⟩) hS ?_
      rotate_left
      · intro wz hwz
        try dsimp only at hwz
        go_simp
        try with_reducible rfl
      simp only [List.getElem_toArray, List.getElem_cons_succ, List.getElem_cons_zero, Act.put, List.setIfInBounds_toArray, List.set_cons_zero, List.set_cons_succ]
      refine HL.one (i := 2) (o := _) rfl (by kernel_rfl) (by decide) (by rfl) ?_
      intro K hK
      go_simp
      refine (IADD_any ngX ngA AX AA nX cX nA cA _ _ (by omega) (by omega) _ wc.heap.size (Nat.le_refl _) HX HA).mono ?_
      rintro e wn ⟨ng1, A1, n1, c1, rfl, hH1, k1, hbn⟩
      have H1 := Lib.hid hH1
      clear hH1
      clear HX
      replace HY := Lib.hid (HY.out.to hbn (Nat.le_refl _) hbn.size)
      replace HP := Lib.hid (HP.out.to hbn (Nat.le_refl _) hbn.size)
      replace HQ := Lib.hid (HQ.out.to hbn (Nat.le_refl _) hbn.size)
      replace HA := Lib.hid (HA.out.to hbn (Nat.le_refl _) hbn.size)
      replace HB := Lib.hid (HB.out.to hbn (Nat.le_refl _) hbn.size)
      have HBn := Lib.hid (HBc.out.trans (hbn.mono HBc.out.size))
      have hSn : wn.cell? ⟨g6, 0, none⟩ = some (.bool ngX) ∧ wn.cell? ⟨g6, 1, none⟩ = some (.slice AX nX cX) ∧ wn.cell? ⟨g7, 0, none⟩ = some (.bool ngY) ∧ wn.cell? ⟨g7, 1, none⟩ = some (.slice AY nY cY) ∧ wn.cell? ⟨g8, 0, none⟩ = some (.bool ngP) ∧ wn.cell? ⟨g8, 1, none⟩ = some (.slice AP nP cP) ∧ wn.cell? ⟨g9, 0, none⟩ = some (.bool ngQ) ∧ wn.cell? ⟨g9, 1, none⟩ = some (.slice AQ nQ cQ) ∧ wn.cell? ⟨g12, 0, none⟩ = some (.bool ngA) ∧ wn.cell? ⟨g12, 1, none⟩ = some (.slice AA nA cA) ∧ wn.cell? ⟨g13, 0, none⟩ = some (.bool ngB) ∧ wn.cell? ⟨g13, 1, none⟩ = some (.slice AB nB cB) := ⟨(hbn.cell (p := ⟨g6, 0, none⟩) hg_0).trans hS.1, (hbn.cell (p := ⟨g6, 1, none⟩) hg_0).trans hS.2.1, (hbn.cell (p := ⟨g7, 0, none⟩) hg_1).trans hS.2.2.1, (hbn.cell (p := ⟨g7, 1, none⟩) hg_1).trans hS.2.2.2.1, (hbn.cell (p := ⟨g8, 0, none⟩) hg_2).trans hS.2.2.2.2.1, (hbn.cell (p := ⟨g8, 1, none⟩) hg_2).trans hS.2.2.2.2.2.1, (hbn.cell (p := ⟨g9, 0, none⟩) hg_3).trans hS.2.2.2.2.2.2.1, (hbn.cell (p := ⟨g9, 1, none⟩) hg_3).trans hS.2.2.2.2.2.2.2.1, (hbn.cell (p := ⟨g12, 0, none⟩) hg_4).trans hS.2.2.2.2.2.2.2.2.1, (hbn.cell (p := ⟨g12, 1, none⟩) hg_4).trans hS.2.2.2.2.2.2.2.2.2.1, (hbn.cell (p := ⟨g13, 0, none⟩) hg_5).trans hS.2.2.2.2.2.2.2.2.2.2.1, (hbn.cell (p := ⟨g13, 1, none⟩) hg_5).trans hS.2.2.2.2.2.2.2.2.2.2.2⟩
      have hgn_0 := Nat.lt_of_lt_of_le hg_0 hbn.size
      have hgn_1 := Nat.lt_of_lt_of_le hg_1 hbn.size
      have hgn_2 := Nat.lt_of_lt_of_le hg_2 hbn.size
      have hgn_3 := Nat.lt_of_lt_of_le hg_3 hbn.size
      have hgn_4 := Nat.lt_of_lt_of_le hg_4 hbn.size
      have hgn_5 := Nat.lt_of_lt_of_le hg_5 hbn.size
      refine hK.out _ _ hSn ?_
      clear hK K hS HBc hg_0 hg_1 hg_2 hg_3 hg_4 hg_5
      try simp only [List.getElem_toArray, List.getElem_cons_succ, List.getElem_cons_zero, Act.put, List.setIfInBounds_toArray, List.set_cons_zero, List.set_cons_succ]
      have hS := hSn
      have HBc := HBn
      have hg_0 := hgn_0
      have hg_1 := hgn_1
      have hg_2 := hgn_2
      have hg_3 := hgn_3
      have hg_4 := hgn_4
      have hg_5 := hgn_5
      clear hSn HBn hbn hgn_0 hgn_1 hgn_2 hgn_3 hgn_4 hgn_5
      obtain ⟨wc, rfl⟩ : ∃ x : World, x = wn := ⟨_, rfl⟩
      refine HL.one (i := 5) (o := _) rfl (by kernel_rfl) (by decide) (by rfl) ?_
      intro K hK
      go_simp
      refine (IADD_any ngY ngB AY AB nY cY nB cB _ _ (by omega) (by omega) _ wc.heap.size (Nat.le_refl _) HY HB).mono ?_
      rintro e wn ⟨ng2, A2, n2, c2, rfl, hH2, k2, hbn⟩
      have H2 := Lib.hid hH2
      clear hH2
      clear HY
      replace HP := Lib.hid (HP.out.to hbn (Nat.le_refl _) hbn.size)
      replace HQ := Lib.hid (HQ.out.to hbn (Nat.le_refl _) hbn.size)
      replace HA := Lib.hid (HA.out.to hbn (Nat.le_refl _) hbn.size)
      replace HB := Lib.hid (HB.out.to hbn (Nat.le_refl _) hbn.size)
      replace H1 := Lib.hid (H1.out.to hbn (Nat.le_refl _) hbn.size)
      have HBn := Lib.hid (HBc.out.trans (hbn.mono HBc.out.size))
      have hSn : wn.cell? ⟨g6, 0, none⟩ = some (.bool ngX) ∧ wn.cell? ⟨g6, 1, none⟩ = some (.slice AX nX cX) ∧ wn.cell? ⟨g7, 0, none⟩ = some (.bool ngY) ∧ wn.cell? ⟨g7, 1, none⟩ = some (.slice AY nY cY) ∧ wn.cell? ⟨g8, 0, none⟩ = some (.bool ngP) ∧ wn.cell? ⟨g8, 1, none⟩ = some (.slice AP nP cP) ∧ wn.cell? ⟨g9, 0, none⟩ = some (.bool ngQ) ∧ wn.cell? ⟨g9, 1, none⟩ = some (.slice AQ nQ cQ) ∧ wn.cell? ⟨g12, 0, none⟩ = some (.bool ngA) ∧ wn.cell? ⟨g12, 1, none⟩ = some (.slice AA nA cA) ∧ wn.cell? ⟨g13, 0, none⟩ = some (.bool ngB) ∧ wn.cell? ⟨g13, 1, none⟩ = some (.slice AB nB cB) := ⟨(hbn.cell (p := ⟨g6, 0, none⟩) hg_0).trans hS.1, (hbn.cell (p := ⟨g6, 1, none⟩) hg_0).trans hS.2.1, (hbn.cell (p := ⟨g7, 0, none⟩) hg_1).trans hS.2.2.1, (hbn.cell (p := ⟨g7, 1, none⟩) hg_1).trans hS.2.2.2.1, (hbn.cell (p := ⟨g8, 0, none⟩) hg_2).trans hS.2.2.2.2.1, (hbn.cell (p := ⟨g8, 1, none⟩) hg_2).trans hS.2.2.2.2.2.1, (hbn.cell (p := ⟨g9, 0, none⟩) hg_3).trans hS.2.2.2.2.2.2.1, (hbn.cell (p := ⟨g9, 1, none⟩) hg_3).trans hS.2.2.2.2.2.2.2.1, (hbn.cell (p := ⟨g12, 0, none⟩) hg_4).trans hS.2.2.2.2.2.2.2.2.1, (hbn.cell (p := ⟨g12, 1, none⟩) hg_4).trans hS.2.2.2.2.2.2.2.2.2.1, (hbn.cell (p := ⟨g13, 0, none⟩) hg_5).trans hS.2.2.2.2.2.2.2.2.2.2.1, (hbn.cell (p := ⟨g13, 1, none⟩) hg_5).trans hS.2.2.2.2.2.2.2.2.2.2.2⟩
      have hgn_0 := Nat.lt_of_lt_of_le hg_0 hbn.size
      have hgn_1 := Nat.lt_of_lt_of_le hg_1 hbn.size
      have hgn_2 := Nat.lt_of_lt_of_le hg_2 hbn.size
      have hgn_3 := Nat.lt_of_lt_of_le hg_3 hbn.size
      have hgn_4 := Nat.lt_of_lt_of_le hg_4 hbn.size
      have hgn_5 := Nat.lt_of_lt_of_le hg_5 hbn.size
      refine hK.out _ _ hSn ?_
      clear hK K hS HBc hg_0 hg_1 hg_2 hg_3 hg_4 hg_5
      try simp only [List.getElem_toArray, List.getElem_cons_succ, List.getElem_cons_zero, Act.put, List.setIfInBounds_toArray, List.set_cons_zero, List.set_cons_succ]
      have hS := hSn
      have HBc := HBn
      have hg_0 := hgn_0
      have hg_1 := hgn_1
      have hg_2 := hgn_2
      have hg_3 := hgn_3
      have hg_4 := hgn_4
      have hg_5 := hgn_5
      clear hSn HBn hbn hgn_0 hgn_1 hgn_2 hgn_3 hgn_4 hgn_5
      obtain ⟨wc, rfl⟩ : ∃ x : World, x = wn := ⟨_, rfl⟩
      refine HL.one (i := 9) (o := _) rfl (by kernel_rfl) (by decide) (by rfl) ?_
      intro K hK
      go_simp
      refine (IMUL_any ngA ngA AA AA nA cA nA cA _ _ (by omega) (by omega) _ wc.heap.size (Nat.le_refl _) HA HA).mono ?_
      rintro e wn ⟨ng3, A3, n3, c3, rfl, hH3, k3, hbn⟩
      have H3 := Lib.hid hH3
      clear hH3
      replace HP := Lib.hid (HP.out.to hbn (Nat.le_refl _) hbn.size)
      replace HQ := Lib.hid (HQ.out.to hbn (Nat.le_refl _) hbn.size)
      replace HA := Lib.hid (HA.out.to hbn (Nat.le_refl _) hbn.size)
      replace HB := Lib.hid (HB.out.to hbn (Nat.le_refl _) hbn.size)
      replace H1 := Lib.hid (H1.out.to hbn (Nat.le_refl _) hbn.size)
      replace H2 := Lib.hid (H2.out.to hbn (Nat.le_refl _) hbn.size)
      have HBn := Lib.hid (HBc.out.trans (hbn.mono HBc.out.size))
      have hSn : wn.cell? ⟨g6, 0, none⟩ = some (.bool ngX) ∧ wn.cell? ⟨g6, 1, none⟩ = some (.slice AX nX cX) ∧ wn.cell? ⟨g7, 0, none⟩ = some (.bool ngY) ∧ wn.cell? ⟨g7, 1, none⟩ = some (.slice AY nY cY) ∧ wn.cell? ⟨g8, 0, none⟩ = some (.bool ngP) ∧ wn.cell? ⟨g8, 1, none⟩ = some (.slice AP nP cP) ∧ wn.cell? ⟨g9, 0, none⟩ = some (.bool ngQ) ∧ wn.cell? ⟨g9, 1, none⟩ = some (.slice AQ nQ cQ) ∧ wn.cell? ⟨g12, 0, none⟩ = some (.bool ngA) ∧ wn.cell? ⟨g12, 1, none⟩ = some (.slice AA nA cA) ∧ wn.cell? ⟨g13, 0, none⟩ = some (.bool ngB) ∧ wn.cell? ⟨g13, 1, none⟩ = some (.slice AB nB cB) := ⟨(hbn.cell (p := ⟨g6, 0, none⟩) hg_0).trans hS.1, (hbn.cell (p := ⟨g6, 1, none⟩) hg_0).trans hS.2.1, (hbn.cell (p := ⟨g7, 0, none⟩) hg_1).trans hS.2.2.1, (hbn.cell (p := ⟨g7, 1, none⟩) hg_1).trans hS.2.2.2.1, (hbn.cell (p := ⟨g8, 0, none⟩) hg_2).trans hS.2.2.2.2.1, (hbn.cell (p := ⟨g8, 1, none⟩) hg_2).trans hS.2.2.2.2.2.1, (hbn.cell (p := ⟨g9, 0, none⟩) hg_3).trans hS.2.2.2.2.2.2.1, (hbn.cell (p := ⟨g9, 1, none⟩) hg_3).trans hS.2.2.2.2.2.2.2.1, (hbn.cell (p := ⟨g12, 0, none⟩) hg_4).trans hS.2.2.2.2.2.2.2.2.1, (hbn.cell (p := ⟨g12, 1, none⟩) hg_4).trans hS.2.2.2.2.2.2.2.2.2.1, (hbn.cell (p := ⟨g13, 0, none⟩) hg_5).trans hS.2.2.2.2.2.2.2.2.2.2.1, (hbn.cell (p := ⟨g13, 1, none⟩) hg_5).trans hS.2.2.2.2.2.2.2.2.2.2.2⟩
      have hgn_0 := Nat.lt_of_lt_of_le hg_0 hbn.size
      have hgn_1 := Nat.lt_of_lt_of_le hg_1 hbn.size
      have hgn_2 := Nat.lt_of_lt_of_le hg_2 hbn.size
      have hgn_3 := Nat.lt_of_lt_of_le hg_3 hbn.size
      have hgn_4 := Nat.lt_of_lt_of_le hg_4 hbn.size
      have hgn_5 := Nat.lt_of_lt_of_le hg_5 hbn.size
      refine hK.out _ _ hSn ?_
      clear hK K hS HBc hg_0 hg_1 hg_2 hg_3 hg_4 hg_5
      try simp only [List.getElem_toArray, List.getElem_cons_succ, List.getElem_cons_zero, Act.put, List.setIfInBounds_toArray, List.set_cons_zero, List.set_cons_succ]
      have hS := hSn
      have HBc := HBn
      have hg_0 := hgn_0
      have hg_1 := hgn_1
      have hg_2 := hgn_2
      have hg_3 := hgn_3
      have hg_4 := hgn_4
      have hg_5 := hgn_5
      clear hSn HBn hbn hgn_0 hgn_1 hgn_2 hgn_3 hgn_4 hgn_5
      obtain ⟨wc, rfl⟩ : ∃ x : World, x = wn := ⟨_, rfl⟩
      refine HL.one (i := 10) (o := _) rfl (by kernel_rfl) (by decide) (by rfl) ?_
      intro K hK
      go_simp
      refine (IADD_any ngP ng3 AP A3 nP cP n3 c3 _ _ (by omega) (by omega) _ wc.heap.size (Nat.le_refl _) HP H3).mono ?_
      rintro e wn ⟨ng4, A4, n4, c4, rfl, hH4, k4, hbn⟩
      have H4 := Lib.hid hH4
      clear hH4
      clear HP H3
      replace HQ := Lib.hid (HQ.out.to hbn (Nat.le_refl _) hbn.size)
      replace HA := Lib.hid (HA.out.to hbn (Nat.le_refl _) hbn.size)
      replace HB := Lib.hid (HB.out.to hbn (Nat.le_refl _) hbn.size)
      replace H1 := Lib.hid (H1.out.to hbn (Nat.le_refl _) hbn.size)
      replace H2 := Lib.hid (H2.out.to hbn (Nat.le_refl _) hbn.size)
      have HBn := Lib.hid (HBc.out.trans (hbn.mono HBc.out.size))
      have hSn : wn.cell? ⟨g6, 0, none⟩ = some (.bool ngX) ∧ wn.cell? ⟨g6, 1, none⟩ = some (.slice AX nX cX) ∧ wn.cell? ⟨g7, 0, none⟩ = some (.bool ngY) ∧ wn.cell? ⟨g7, 1, none⟩ = some (.slice AY nY cY) ∧ wn.cell? ⟨g8, 0, none⟩ = some (.bool ngP) ∧ wn.cell? ⟨g8, 1, none⟩ = some (.slice AP nP cP) ∧ wn.cell? ⟨g9, 0, none⟩ = some (.bool ngQ) ∧ wn.cell? ⟨g9, 1, none⟩ = some (.slice AQ nQ cQ) ∧ wn.cell? ⟨g12, 0, none⟩ = some (.bool ngA) ∧ wn.cell? ⟨g12, 1, none⟩ = some (.slice AA nA cA) ∧ wn.cell? ⟨g13, 0, none⟩ = some (.bool ngB) ∧ wn.cell? ⟨g13, 1, none⟩ = some (.slice AB nB cB) := ⟨(hbn.cell (p := ⟨g6, 0, none⟩) hg_0).trans hS.1, (hbn.cell (p := ⟨g6, 1, none⟩) hg_0).trans hS.2.1, (hbn.cell (p := ⟨g7, 0, none⟩) hg_1).trans hS.2.2.1, (hbn.cell (p := ⟨g7, 1, none⟩) hg_1).trans hS.2.2.2.1, (hbn.cell (p := ⟨g8, 0, none⟩) hg_2).trans hS.2.2.2.2.1, (hbn.cell (p := ⟨g8, 1, none⟩) hg_2).trans hS.2.2.2.2.2.1, (hbn.cell (p := ⟨g9, 0, none⟩) hg_3).trans hS.2.2.2.2.2.2.1, (hbn.cell (p := ⟨g9, 1, none⟩) hg_3).trans hS.2.2.2.2.2.2.2.1, (hbn.cell (p := ⟨g12, 0, none⟩) hg_4).trans hS.2.2.2.2.2.2.2.2.1, (hbn.cell (p := ⟨g12, 1, none⟩) hg_4).trans hS.2.2.2.2.2.2.2.2.2.1, (hbn.cell (p := ⟨g13, 0, none⟩) hg_5).trans hS.2.2.2.2.2.2.2.2.2.2.1, (hbn.cell (p := ⟨g13, 1, none⟩) hg_5).trans hS.2.2.2.2.2.2.2.2.2.2.2⟩
      have hgn_0 := Nat.lt_of_lt_of_le hg_0 hbn.size
      have hgn_1 := Nat.lt_of_lt_of_le hg_1 hbn.size
      have hgn_2 := Nat.lt_of_lt_of_le hg_2 hbn.size
      have hgn_3 := Nat.lt_of_lt_of_le hg_3 hbn.size
      have hgn_4 := Nat.lt_of_lt_of_le hg_4 hbn.size
      have hgn_5 := Nat.lt_of_lt_of_le hg_5 hbn.size
      refine hK.out _ _ hSn ?_
      clear hK K hS HBc hg_0 hg_1 hg_2 hg_3 hg_4 hg_5
      try simp only [List.getElem_toArray, List.getElem_cons_succ, List.getElem_cons_zero, Act.put, List.setIfInBounds_toArray, List.set_cons_zero, List.set_cons_succ]
      have hS := hSn
      have HBc := HBn
      have hg_0 := hgn_0
      have hg_1 := hgn_1
      have hg_2 := hgn_2
      have hg_3 := hgn_3
      have hg_4 := hgn_4
      have hg_5 := hgn_5
      clear hSn HBn hbn hgn_0 hgn_1 hgn_2 hgn_3 hgn_4 hgn_5
      obtain ⟨wc, rfl⟩ : ∃ x : World, x = wn := ⟨_, rfl⟩
      refine HL.one (i := 14) (o := _) rfl (by kernel_rfl) (by decide) (by rfl) ?_
      intro K hK
      go_simp
      refine (IMUL_any ngA ngB AA AB nA cA nB cB _ _ (by omega) (by omega) _ wc.heap.size (Nat.le_refl _) HA HB).mono ?_
      rintro e wn ⟨ng5, A5, n5, c5, rfl, hH5, k5, hbn⟩
      have H5 := Lib.hid hH5
      clear hH5
      clear HA HB
      replace HQ := Lib.hid (HQ.out.to hbn (Nat.le_refl _) hbn.size)
      replace H1 := Lib.hid (H1.out.to hbn (Nat.le_refl _) hbn.size)
      replace H2 := Lib.hid (H2.out.to hbn (Nat.le_refl _) hbn.size)
      replace H4 := Lib.hid (H4.out.to hbn (Nat.le_refl _) hbn.size)
      have HBn := Lib.hid (HBc.out.trans (hbn.mono HBc.out.size))
      have hSn : wn.cell? ⟨g6, 0, none⟩ = some (.bool ngX) ∧ wn.cell? ⟨g6, 1, none⟩ = some (.slice AX nX cX) ∧ wn.cell? ⟨g7, 0, none⟩ = some (.bool ngY) ∧ wn.cell? ⟨g7, 1, none⟩ = some (.slice AY nY cY) ∧ wn.cell? ⟨g8, 0, none⟩ = some (.bool ngP) ∧ wn.cell? ⟨g8, 1, none⟩ = some (.slice AP nP cP) ∧ wn.cell? ⟨g9, 0, none⟩ = some (.bool ngQ) ∧ wn.cell? ⟨g9, 1, none⟩ = some (.slice AQ nQ cQ) ∧ wn.cell? ⟨g12, 0, none⟩ = some (.bool ngA) ∧ wn.cell? ⟨g12, 1, none⟩ = some (.slice AA nA cA) ∧ wn.cell? ⟨g13, 0, none⟩ = some (.bool ngB) ∧ wn.cell? ⟨g13, 1, none⟩ = some (.slice AB nB cB) := ⟨(hbn.cell (p := ⟨g6, 0, none⟩) hg_0).trans hS.1, (hbn.cell (p := ⟨g6, 1, none⟩) hg_0).trans hS.2.1, (hbn.cell (p := ⟨g7, 0, none⟩) hg_1).trans hS.2.2.1, (hbn.cell (p := ⟨g7, 1, none⟩) hg_1).trans hS.2.2.2.1, (hbn.cell (p := ⟨g8, 0, none⟩) hg_2).trans hS.2.2.2.2.1, (hbn.cell (p := ⟨g8, 1, none⟩) hg_2).trans hS.2.2.2.2.2.1, (hbn.cell (p := ⟨g9, 0, none⟩) hg_3).trans hS.2.2.2.2.2.2.1, (hbn.cell (p := ⟨g9, 1, none⟩) hg_3).trans hS.2.2.2.2.2.2.2.1, (hbn.cell (p := ⟨g12, 0, none⟩) hg_4).trans hS.2.2.2.2.2.2.2.2.1, (hbn.cell (p := ⟨g12, 1, none⟩) hg_4).trans hS.2.2.2.2.2.2.2.2.2.1, (hbn.cell (p := ⟨g13, 0, none⟩) hg_5).trans hS.2.2.2.2.2.2.2.2.2.2.1, (hbn.cell (p := ⟨g13, 1, none⟩) hg_5).trans hS.2.2.2.2.2.2.2.2.2.2.2⟩
      have hgn_0 := Nat.lt_of_lt_of_le hg_0 hbn.size
      have hgn_1 := Nat.lt_of_lt_of_le hg_1 hbn.size
      have hgn_2 := Nat.lt_of_lt_of_le hg_2 hbn.size
      have hgn_3 := Nat.lt_of_lt_of_le hg_3 hbn.size
      have hgn_4 := Nat.lt_of_lt_of_le hg_4 hbn.size
      have hgn_5 := Nat.lt_of_lt_of_le hg_5 hbn.size
      refine hK.out _ _ hSn ?_
      clear hK K hS HBc hg_0 hg_1 hg_2 hg_3 hg_4 hg_5
      try simp only [List.getElem_toArray, List.getElem_cons_succ, List.getElem_cons_zero, Act.put, List.setIfInBounds_toArray, List.set_cons_zero, List.set_cons_succ]
      have hS := hSn
      have HBc := HBn
      have hg_0 := hgn_0
      have hg_1 := hgn_1
      have hg_2 := hgn_2
      have hg_3 := hgn_3
      have hg_4 := hgn_4
      have hg_5 := hgn_5
      clear hSn HBn hbn hgn_0 hgn_1 hgn_2 hgn_3 hgn_4 hgn_5
      obtain ⟨wc, rfl⟩ : ∃ x : World, x = wn := ⟨_, rfl⟩
      refine HL.one (i := 15) (o := _) rfl (by kernel_rfl) (by decide) (by rfl) ?_
      intro K hK
      go_simp
      refine (IADD_any ngQ ng5 AQ A5 nQ cQ n5 c5 _ _ (by omega) (by omega) _ wc.heap.size (Nat.le_refl _) HQ H5).mono ?_
      rintro e wn ⟨ng6, A6, n6, c6, rfl, hH6, k6, hbn⟩
      have H6 := Lib.hid hH6
      clear hH6
      clear HQ H5
      replace H1 := Lib.hid (H1.out.to hbn (Nat.le_refl _) hbn.size)
      replace H2 := Lib.hid (H2.out.to hbn (Nat.le_refl _) hbn.size)
      replace H4 := Lib.hid (H4.out.to hbn (Nat.le_refl _) hbn.size)
      have HBn := Lib.hid (HBc.out.trans (hbn.mono HBc.out.size))
      have hSn : wn.cell? ⟨g6, 0, none⟩ = some (.bool ngX) ∧ wn.cell? ⟨g6, 1, none⟩ = some (.slice AX nX cX) ∧ wn.cell? ⟨g7, 0, none⟩ = some (.bool ngY) ∧ wn.cell? ⟨g7, 1, none⟩ = some (.slice AY nY cY) ∧ wn.cell? ⟨g8, 0, none⟩ = some (.bool ngP) ∧ wn.cell? ⟨g8, 1, none⟩ = some (.slice AP nP cP) ∧ wn.cell? ⟨g9, 0, none⟩ = some (.bool ngQ) ∧ wn.cell? ⟨g9, 1, none⟩ = some (.slice AQ nQ cQ) ∧ wn.cell? ⟨g12, 0, none⟩ = some (.bool ngA) ∧ wn.cell? ⟨g12, 1, none⟩ = some (.slice AA nA cA) ∧ wn.cell? ⟨g13, 0, none⟩ = some (.bool ngB) ∧ wn.cell? ⟨g13, 1, none⟩ = some (.slice AB nB cB) := ⟨(hbn.cell (p := ⟨g6, 0, none⟩) hg_0).trans hS.1, (hbn.cell (p := ⟨g6, 1, none⟩) hg_0).trans hS.2.1, (hbn.cell (p := ⟨g7, 0, none⟩) hg_1).trans hS.2.2.1, (hbn.cell (p := ⟨g7, 1, none⟩) hg_1).trans hS.2.2.2.1, (hbn.cell (p := ⟨g8, 0, none⟩) hg_2).trans hS.2.2.2.2.1, (hbn.cell (p := ⟨g8, 1, none⟩) hg_2).trans hS.2.2.2.2.2.1, (hbn.cell (p := ⟨g9, 0, none⟩) hg_3).trans hS.2.2.2.2.2.2.1, (hbn.cell (p := ⟨g9, 1, none⟩) hg_3).trans hS.2.2.2.2.2.2.2.1, (hbn.cell (p := ⟨g12, 0, none⟩) hg_4).trans hS.2.2.2.2.2.2.2.2.1, (hbn.cell (p := ⟨g12, 1, none⟩) hg_4).trans hS.2.2.2.2.2.2.2.2.2.1, (hbn.cell (p := ⟨g13, 0, none⟩) hg_5).trans hS.2.2.2.2.2.2.2.2.2.2.1, (hbn.cell (p := ⟨g13, 1, none⟩) hg_5).trans hS.2.2.2.2.2.2.2.2.2.2.2⟩
      have hgn_0 := Nat.lt_of_lt_of_le hg_0 hbn.size
      have hgn_1 := Nat.lt_of_lt_of_le hg_1 hbn.size
      have hgn_2 := Nat.lt_of_lt_of_le hg_2 hbn.size
      have hgn_3 := Nat.lt_of_lt_of_le hg_3 hbn.size
      have hgn_4 := Nat.lt_of_lt_of_le hg_4 hbn.size
      have hgn_5 := Nat.lt_of_lt_of_le hg_5 hbn.size
      refine hK.out _ _ hSn ?_
      clear hK K hS HBc hg_0 hg_1 hg_2 hg_3 hg_4 hg_5
      try simp only [List.getElem_toArray, List.getElem_cons_succ, List.getElem_cons_zero, Act.put, List.setIfInBounds_toArray, List.set_cons_zero, List.set_cons_succ]
      have hS := hSn
      have HBc := HBn
      have hg_0 := hgn_0
      have hg_1 := hgn_1
      have hg_2 := hgn_2
      have hg_3 := hgn_3
      have hg_4 := hgn_4
      have hg_5 := hgn_5
      clear hSn HBn hbn hgn_0 hgn_1 hgn_2 hgn_3 hgn_4 hgn_5
      obtain ⟨wc, rfl⟩ : ∃ x : World, x = wn := ⟨_, rfl⟩
      have e6 := Lib.hid ((HBc.out.block g6 (blk_lt HBX.out)).trans HBX.out)
      have e7 := Lib.hid ((HBc.out.block g7 (blk_lt HBY.out)).trans HBY.out)
      have e8 := Lib.hid ((HBc.out.block g8 (blk_lt HBP.out)).trans HBP.out)
      have e9 := Lib.hid ((HBc.out.block g9 (blk_lt HBQ.out)).trans HBQ.out)
      have i5 := Lib.hid (I5.out.below HBc.out)
      obtain ⟨r60, r61, f60, f61⟩ := two_cells e6.out
      obtain ⟨r70, r71, f70, f71⟩ := two_cells e7.out
      obtain ⟨r80, r81, f80, f81⟩ := two_cells e8.out
      obtain ⟨r90, r91, f90, f91⟩ := two_cells e9.out
      refine HL.done (by kernel_rfl) ?_
      clear hS
      simp only [List.drop_succ_cons, List.drop_zero]
      obtain ⟨V1, hV1⟩ : ∃ V, V = (wc.setCell ⟨g6, 0, none⟩ (.bool ng1)).setCell ⟨g6, 1, none⟩ (.slice A1 n1 c1) := ⟨_, rfl⟩
      have a6 : Hid (IBox V1 g6 (sumZ (fun p => p.1) l k + x) (k + 6)) := by rw [hV1]; exact IBox.store e6.out H1.out (by omega)
      have a7 : Hid (V1.heap[g7]? = some (.cells #[.bool ngY, .slice AY nY cY] 36 (0, 0))) := by rw [hV1]; exact box_far (box_far e7.out (Ne.symm D67) 0 (.bool ng1)) (Ne.symm D67) 1 (.slice A1 n1 c1)
      have a8 : Hid (V1.heap[g8]? = some (.cells #[.bool ngP, .slice AP nP cP] 36 (0, 0))) := by rw [hV1]; exact box_far (box_far e8.out (Ne.symm D68) 0 _) (Ne.symm D68) 1 _
      have a9 : Hid (V1.heap[g9]? = some (.cells #[.bool ngQ, .slice AQ nQ cQ] 36 (0, 0))) := by rw [hV1]; exact box_far (box_far e9.out (Ne.symm D69) 0 _) (Ne.symm D69) 1 _
      have a5 : Hid (IBox V1 g5 (n : Int) 2) := by rw [hV1]; exact i5.out.far ⟨_, _, e6.out⟩ D56 _ _
      have m2 : Hid (IntAt V1 V1.heap.size ng2 A2 n2 c2 (sumZ (fun p => p.2) l k + y)) := by rw [hV1]; exact H2.out.box2 (g := g6) ⟨_, _, e6.out⟩ (by decide) _ _
      have m4 : Hid (IntAt V1 V1.heap.size ng4 A4 n4 c4 (sumZ (fun p => p.1 * p.1) l k + x * x)) := by rw [hV1]; exact H4.out.box2 (g := g6) ⟨_, _, e6.out⟩ (by decide) _ _
      have m6 : Hid (IntAt V1 V1.heap.size ng6 A6 n6 c6 (sumZ (fun p => p.1 * p.2) l k + x * y)) := by rw [hV1]; exact H6.out.box2 (g := g6) ⟨_, _, e6.out⟩ (by decide) _ _
      have B1 : Hid (Below w.heap.size w V1) := by rw [hV1]; exact box2_below (HBA0.out.trans (HBc.out.mono HBA0.out.size)) G6.out
      obtain ⟨V2, hV2⟩ : ∃ V, V = (V1.setCell ⟨g7, 0, none⟩ (.bool ng2)).setCell ⟨g7, 1, none⟩ (.slice A2 n2 c2) := ⟨_, rfl⟩
      have b6 : Hid (IBox V2 g6 (sumZ (fun p => p.1) l k + x) (k + 6)) := by rw [hV2]; exact a6.out.far ⟨_, _, a7.out⟩ D67 _ _
      have b7 : Hid (IBox V2 g7 (sumZ (fun p => p.2) l k + y) (k + 6)) := by rw [hV2]; exact IBox.store a7.out m2.out (by omega)
      have b8 : Hid (V2.heap[g8]? = some (.cells #[.bool ngP, .slice AP nP cP] 36 (0, 0))) := by rw [hV2]; exact box_far (box_far a8.out (Ne.symm D78) 0 _) (Ne.symm D78) 1 _
      have b9 : Hid (V2.heap[g9]? = some (.cells #[.bool ngQ, .slice AQ nQ cQ] 36 (0, 0))) := by rw [hV2]; exact box_far (box_far a9.out (Ne.symm D79) 0 _) (Ne.symm D79) 1 _
      have b5 : Hid (IBox V2 g5 (n : Int) 2) := by rw [hV2]; exact a5.out.far ⟨_, _, a7.out⟩ D57 _ _
      have o4 : Hid (IntAt V2 V2.heap.size ng4 A4 n4 c4 (sumZ (fun p => p.1 * p.1) l k + x * x)) := by rw [hV2]; exact m4.out.box2 (g := g7) ⟨_, _, a7.out⟩ (by decide) _ _
      have o6 : Hid (IntAt V2 V2.heap.size ng6 A6 n6 c6 (sumZ (fun p => p.1 * p.2) l k + x * y)) := by rw [hV2]; exact m6.out.box2 (g := g7) ⟨_, _, a7.out⟩ (by decide) _ _
      have B2 : Hid (Below w.heap.size w V2) := by rw [hV2]; exact box2_below B1.out G7.out
      obtain ⟨V3, hV3⟩ : ∃ V, V = (V2.setCell ⟨g8, 0, none⟩ (.bool ng4)).setCell ⟨g8, 1, none⟩ (.slice A4 n4 c4) := ⟨_, rfl⟩
      have d6 : Hid (IBox V3 g6 (sumZ (fun p => p.1) l k + x) (k + 6)) := by rw [hV3]; exact b6.out.far ⟨_, _, b8.out⟩ D68 _ _
      have d7 : Hid (IBox V3 g7 (sumZ (fun p => p.2) l k + y) (k + 6)) := by rw [hV3]; exact b7.out.far ⟨_, _, b8.out⟩ D78 _ _
      have d8 : Hid (IBox V3 g8 (sumZ (fun p => p.1 * p.1) l k + x * x) (k + 6)) := by rw [hV3]; exact IBox.store b8.out o4.out (by omega)
      have d9 : Hid (V3.heap[g9]? = some (.cells #[.bool ngQ, .slice AQ nQ cQ] 36 (0, 0))) := by rw [hV3]; exact box_far (box_far b9.out (Ne.symm D89) 0 _) (Ne.symm D89) 1 _
      have d5 : Hid (IBox V3 g5 (n : Int) 2) := by rw [hV3]; exact b5.out.far ⟨_, _, b8.out⟩ D58 _ _
      have p6 : Hid (IntAt V3 V3.heap.size ng6 A6 n6 c6 (sumZ (fun p => p.1 * p.2) l k + x * y)) := by rw [hV3]; exact o6.out.box2 (g := g8) ⟨_, _, b8.out⟩ (by decide) _ _
      have B3 : Hid (Below w.heap.size w V3) := by rw [hV3]; exact box2_below B2.out G8.out
      obtain ⟨V4, hV4⟩ : ∃ V, V = (V3.setCell ⟨g9, 0, none⟩ (.bool ng6)).setCell ⟨g9, 1, none⟩ (.slice A6 n6 c6) := ⟨_, rfl⟩
      have f6 : Hid (IBox V4 g6 (sumZ (fun p => p.1) l (k + 1)) (k + 1 + 5)) := by rw [hV4, SX.out]; exact d6.out.far ⟨_, _, d9.out⟩ D69 _ _
      have f7 : Hid (IBox V4 g7 (sumZ (fun p => p.2) l (k + 1)) (k + 1 + 5)) := by rw [hV4, SY.out]; exact d7.out.far ⟨_, _, d9.out⟩ D79 _ _
      have f8 : Hid (IBox V4 g8 (sumZ (fun p => p.1 * p.1) l (k + 1)) (k + 1 + 5)) := by rw [hV4, SP.out]; exact d8.out.far ⟨_, _, d9.out⟩ D89 _ _
      have f9 : Hid (IBox V4 g9 (sumZ (fun p => p.1 * p.2) l (k + 1)) (k + 1 + 5)) := by rw [hV4, SQ.out]; exact IBox.store d9.out p6.out (by omega)
      have f5 : Hid (IBox V4 g5 (n : Int) 2) := by rw [hV4]; exact d5.out.far ⟨_, _, d9.out⟩ D59 _ _
      have B4 : Hid (Below w.heap.size w V4) := by rw [hV4]; exact box2_below B3.out G9.out
      rw [hV3, hV2, hV1] at hV4
      clear e6 e7 e8 e9 i5 a5 a6 a7 a8 a9 m2 m4 m6 B1 b5 b6 b7 b8 b9 o4 o6 B2 d5 d6 d7 d8 d9 p6 B3 hV1 hV2 hV3 H1 H2 H4 H6 HBX HBY HBP HBQ
      go_wp2_with fail
      rw [← hV4]
      clear hV4 r60 r61 r70 r71 r80 r81 r90 r91 f60 f61 f70 f71 f80 f81 f90 f91
      go_roundw
      case rel => exact ⟨k + 1, by omega, by go_num, f6, f7, f8, f9, f5, B4⟩
      case measure => simp [intOf]; omega
      -- H1 H2 H4 H6
    · obtain rfl : k = n := by omega
      go_wp2_with fail
      go_meet
      exact ⟨I6, I7, I8, I9, I5, hb⟩
end Go.Proofs.YtocbogdjlapogaaGreatDoor
