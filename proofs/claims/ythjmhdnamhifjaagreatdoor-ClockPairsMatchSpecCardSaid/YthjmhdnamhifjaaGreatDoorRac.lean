/- The document's Across. -/
import Derived.Test.YthjmhdnamhifjaaGreatDoorAcr
set_option linter.unusedSimpArgs false
set_option linter.unusedVariables false
namespace Go.Proofs.YthjmhdnamhifjaaGreatDoor
open Go.RowKit Go.Dw Go.Joins
set_option maxRecDepth 100000 in
set_option maxHeartbeats 16000000 in
theorem RACROSS_any (A : Option Addr) (n c : Nat) (l : List Pr) (a way : Int) (w : World) (ht9 : Hid (TabAt w)) (B : Nat) (hB : B ≤ w.heap.size) (hh : Hid (PrsAt w B A n l)) :
    Calls Tryz.prog 15 #[.slice A n c, .int .i64 a, .int .i64 way] w fun e w' => e = .returned (.tuple #[.int .i64 (acrossS l a way).1, .int .i64 (acrossS l a way).2]) ∧ Below w.heap.size w w' := by
  have hl := Lib.hid hh.out.1
  obtain ⟨x, hx⟩ : ∃ x, chkP l = x := ⟨_, rfl⟩
  have HX := Lib.hid hx
  obtain ⟨bp, HP⟩ : ∃ b, Hid ((decide (-10000000000000 ≤ a) && decide (a ≤ 10000000000000)) = b) := ⟨_, rfl⟩
  obtain ⟨bw, HY⟩ : ∃ b, Hid ((decide (1 ≤ way) && decide (way ≤ 3)) = b) := ⟨_, rfl⟩
  have HPa : Hid (okPos a = bp) := HP.out
  have HWa : Hid (okWay way = bw) := HY.out
  clear hx
  by_cases h0 : x = 0
  rotate_left
  · have hq : ((x : Int) != 0) = true := by simpa using h0
    have HV : Hid (acrossS l a way = (0, x)) := by show _ = _; unfold acrossS; rw [HX.out, if_pos h0]
    go_enter Tryz.func15, Tryz.ntmps15
    go_wp2_with (first
      | (go_at_call 19; refine (RCHECKPAIRS_any A n c l _ B hB hh).mono ?_; rintro e w1 ⟨rfl, hb1⟩; rw [HX.out])
      | (go_at_call 41; refine (RPOSITION_any a _).mono ?_; rintro e w2 ⟨rfl, rfl⟩; rw [HP.out])
      | (go_at_call 52; refine (RWAY_any way _).mono ?_; rintro e w2 ⟨rfl, rfl⟩; rw [HY.out]))
    go_ret2
    exact ⟨by rw [HV.out]; rfl, hb1⟩
  subst h0
  cases bp with
  | false =>
    have HV : Hid (acrossS l a way = (0, 1)) := by show _ = _; unfold acrossS; rw [HX.out, if_neg (by simp), if_pos HPa.out]
    go_enter Tryz.func15, Tryz.ntmps15
    go_wp2_with (first
      | (go_at_call 19; refine (RCHECKPAIRS_any A n c l _ B hB hh).mono ?_; rintro e w1 ⟨rfl, hb1⟩; rw [HX.out])
      | (go_at_call 41; refine (RPOSITION_any a _).mono ?_; rintro e w2 ⟨rfl, rfl⟩; rw [HP.out])
      | (go_at_call 52; refine (RWAY_any way _).mono ?_; rintro e w2 ⟨rfl, rfl⟩; rw [HY.out]))
    go_ret2
    exact ⟨by rw [HV.out]; rfl, hb1⟩
  | true =>
  cases bw with
  | false =>
    have HV : Hid (acrossS l a way = (0, 4)) := by show _ = _; unfold acrossS; rw [HX.out, if_neg (by simp), if_neg (by rw [HPa.out]; simp), if_pos HWa.out]
    go_enter Tryz.func15, Tryz.ntmps15
    go_wp2_with (first
      | (go_at_call 19; refine (RCHECKPAIRS_any A n c l _ B hB hh).mono ?_; rintro e w1 ⟨rfl, hb1⟩; rw [HX.out])
      | (go_at_call 41; refine (RPOSITION_any a _).mono ?_; rintro e w2 ⟨rfl, rfl⟩; rw [HP.out])
      | (go_at_call 52; refine (RWAY_any way _).mono ?_; rintro e w2 ⟨rfl, rfl⟩; rw [HY.out]))
    go_ret2
    exact ⟨by rw [HV.out]; rfl, hb1⟩
  | true =>
  have HOK := Lib.hid (okPs_of HX.out)
  have hn2 : 2 ≤ n := by rw [← hl.out]; exact HOK.out.two
  have hn5 : n ≤ 500 := by rw [← hl.out]; exact HOK.out.few
  obtain ⟨hp1, hp2⟩ := okPos_le HPa.out
  go_enter Tryz.func15, Tryz.ntmps15
  go_upto_block 0 with (first
    | (go_at_call 19; refine (RCHECKPAIRS_any A n c l _ B hB hh).mono ?_; rintro e w1 ⟨rfl, hb1⟩; rw [HX.out])
    | (go_at_call 41; refine (RPOSITION_any a _).mono ?_; rintro e w2 ⟨rfl, rfl⟩; rw [HP.out])
    | (go_at_call 52; refine (RWAY_any way _).mono ?_; rintro e w2 ⟨rfl, rfl⟩; rw [HY.out]))
  have HB1 := Lib.hid hb1
  have hs1 := hb1.size
  clear hb1
  go_cut [9] (fun v wx => ∃ k : Nat, v = .int .i64 k ∧ wx = w1 ∧ Hid (AtSeg l a k))
  case first =>
    go_wp2_with fail
    go_loopw [9] (fun v wr => ∃ k : Nat, k + 1 < n ∧ v = .int .i64 k ∧ wr = w1 ∧ Hid (0 < k → (prOf l k).1 ≤ a)) (fun v _ => n - (intOf v).toNat)
    case atStart => exact ⟨0, by omega, rfl, rfl, fun h => absurd h (by omega)⟩
    case round =>
      obtain ⟨k, hk, rfl, rfl, HLO⟩ := hrel
      by_cases hlt : k + 2 < n
      · obtain ⟨bC, oC, rfl, hbC, s1, _⟩ := (hh.out.below (HB1.out.mono hB) (Nat.le_refl _)).2 (k + 1) (by omega)
        have hk1 : (0 : Int) ≤ (k : Int) + 1 := by omega
        have hkn1 : (k : Int) + 1 < (n : Int) := by omega
        have hkw : IntKind.i64.wrap ((k : Int) + 1) = (k : Int) + 1 := IntWalk.i64_in _ (by omega)
        have hkt : ((k : Int) + 1).toNat = k + 1 := by omega
        have hkl : (k : Int) < (n : Int) - 2 := by omega
        have hkl2 : (k : Int) + 2 < (n : Int) := by omega
        by_cases hle : (prOf l (k + 1)).1 < a
        · have HN : Hid (0 < k + 1 → (prOf l (k + 1)).1 ≤ a) := fun _ => by omega
          have hk3 : k + 1 + 1 < n := by omega
          obtain ⟨z, hz⟩ : ∃ z, (prOf l (k + 1)).1 = z := ⟨_, rfl⟩
          rw [hz] at s1 hle
          clear hz
          go_wp2_with fail
          go_roundw
          case rel => exact ⟨k + 1, hk3, by go_num, trivial, HN⟩
          case measure => simp [intOf]; omega
        · have HSEG : Hid (AtSeg l a k) := ⟨by rw [hl.out]; exact hk, HLO.out, fun h => by omega⟩
          obtain ⟨z, hz⟩ : ∃ z, (prOf l (k + 1)).1 = z := ⟨_, rfl⟩
          rw [hz] at s1 hle
          clear hz
          go_wp2_with fail
          go_meet
          exact ⟨k, rfl, rfl, HSEG⟩
      · have HSEG : Hid (AtSeg l a k) := ⟨by rw [hl.out]; exact hk, HLO.out, fun h => absurd (by rw [hl.out] at h; exact h) hlt⟩
        have hkl : ¬ (k : Int) < (n : Int) - 2 := by omega
        have hkl2 : ¬ (k : Int) + 2 < (n : Int) := by omega
        go_wp2_with fail
        go_meet
        exact ⟨k, rfl, rfl, HSEG⟩
  case rest =>
      obtain ⟨k, rfl, rfl, HSEG⟩ := hcut
      have hk : k + 1 < n := by have := HSEG.out.1; rw [hl.out] at this; exact this
      obtain ⟨w1, rfl⟩ : ∃ x : World, x = wc := ⟨_, rfl⟩
      obtain ⟨bA, oA, rfl, hbA, r1, r2⟩ := (hh.out.below (HB1.out.mono hB) (Nat.le_refl _)).2 k (by omega)
      obtain ⟨bC, oC, e2, hbC, s1, s2⟩ := (hh.out.below (HB1.out.mono hB) (Nat.le_refl _)).2 (k + 1) (by omega)
      injection e2 with e2
      injection e2 with e3 e4 _
      subst e3 e4
      obtain ⟨hrg1, hrg2⟩ := HOK.out.rng k (by rw [hl.out]; omega)
      obtain ⟨hrg3, hrg4⟩ := HOK.out.rng (k + 1) (by rw [hl.out]; omega)
      obtain ⟨hi1, hi2⟩ := HOK.out.inc k (by rw [hl.out]; omega)
      obtain ⟨p, hp⟩ : ∃ p, prOf l k = p := ⟨_, rfl⟩
      obtain ⟨q, hq⟩ : ∃ q, prOf l (k + 1) = q := ⟨_, rfl⟩
      obtain ⟨x1, y1⟩ := p
      obtain ⟨x2, y2⟩ := q
      have HV := Lib.hid (across_seg HX.out HPa.out HWa.out HSEG.out hp hq)
      rw [hp] at r1 r2 hrg1 hrg2 hi1 hi2
      rw [hq] at s1 s2 hrg3 hrg4 hi1 hi2
      dsimp only at r1 r2 s1 s2 hrg1 hrg2 hrg3 hrg4 hi1 hi2
      have hbAw : bA < w1.heap.size := by omega
      have hbw : bA < w.heap.size := by omega
      have hk0 : (0 : Int) ≤ (k : Int) := by omega
      have hkn : (k : Int) < (n : Int) := by omega
      have hk1 : (0 : Int) ≤ (k : Int) + 1 := by omega
      have hkn1 : (k : Int) + 1 < (n : Int) := by omega
      have hkw : IntKind.i64.wrap ((k : Int) + 1) = (k : Int) + 1 := IntWalk.i64_in _ (by omega)
      have hkt : ((k : Int) + 1).toNat = k + 1 := by omega
      clear hp hq
      go_upto_region 11 with (fail)
      go_cut [10, 11] (fun v10 v11 wx => ∃ g1 g2 : Nat, v10 = .pointer (some ⟨g1, 0, none⟩) ∧ v11 = .pointer (some ⟨g2, 0, none⟩) ∧ Hid (wx.heap[g1]? = some (.cells #[.int .i64 x1, .int .i64 y1] 47 (0, 0))) ∧ Hid (wx.heap[g2]? = some (.cells #[.int .i64 x2, .int .i64 y2] 47 (0, 0))) ∧ Hid (Below w.heap.size w1 wx))
      case first =>
        go_region_held3 (fun w' => Below w.heap.size w1 w' ∧ w'.cell? ⟨bA, oA + k * 2, none⟩ = some (.int .i64 x1) ∧ w'.cell? ⟨bA, oA + k * 2 + 1, none⟩ = some (.int .i64 y1) ∧ w'.cell? ⟨bA, oA + (k + 1) * 2, none⟩ = some (.int .i64 x2) ∧ w'.cell? ⟨bA, oA + (k + 1) * 2 + 1, none⟩ = some (.int .i64 y2))
          ((refine (fun h => ⟨h, (h.cell (p := ⟨bA, oA + k * 2, none⟩) hbw).trans r1, (h.cell (p := ⟨bA, oA + k * 2 + 1, none⟩) hbw).trans r2, (h.cell (p := ⟨bA, oA + (k + 1) * 2, none⟩) hbw).trans s1, (h.cell (p := ⟨bA, oA + (k + 1) * 2 + 1, none⟩) hbw).trans s2⟩) ?_; repeat (first | assumption | exact Below.refl _ _ | (refine Below.drew ?_) | (refine Below.alloc ?_ (by first | omega | (simp; omega) | exact Nat.le_trans hs1 (Below.size (by assumption)) | (simp only [World.size_drew, World.size_alloc]; exact Nat.le_trans hs1 (Nat.le_succ_of_le (Below.size (by assumption))))) _) | (refine Below.setCell ?_ (by first | omega | (simp; omega) | exact Nat.le_trans hs1 (Below.size (by assumption))) _))))
          (fail)
        all_goals (go_wp2_with fail; go_meet)
        all_goals
          first
          | refine ⟨w1.heap.size, w1.heap.size + 1, rfl, rfl, ?_, ?_, (‹Below w.heap.size w1 _ ∧ _›).1⟩
          | refine ⟨w1.heap.size + 1, w1.heap.size, rfl, rfl, ?_, ?_, (‹Below w.heap.size w1 _ ∧ _›).1⟩
        all_goals
          first
          | exact (((Below.refl (w1.heap.size + 1) (w1.alloc (.cells #[.int .i64 x1, .int .i64 y1] 47))).alloc (by simp) (.cells #[.int .i64 x2, .int .i64 y2] 47)).block w1.heap.size (by omega)).trans (heap_alloc_new _ _)
          | exact (((Below.refl (w1.heap.size + 1) (w1.alloc (.cells #[.int .i64 x2, .int .i64 y2] 47))).alloc (by simp) (.cells #[.int .i64 x1, .int .i64 y1] 47)).block w1.heap.size (by omega)).trans (heap_alloc_new _ _)
          | (show ((w1.alloc (.cells #[.int .i64 x1, .int .i64 y1] 47)).alloc (.cells #[.int .i64 x2, .int .i64 y2] 47)).heap[w1.heap.size + 1]? = _; have := heap_alloc_new (w1.alloc (.cells #[.int .i64 x1, .int .i64 y1] 47)) (.cells #[.int .i64 x2, .int .i64 y2] 47); rwa [World.size_alloc] at this)
          | (show ((w1.alloc (.cells #[.int .i64 x2, .int .i64 y2] 47)).alloc (.cells #[.int .i64 x1, .int .i64 y1] 47)).heap[w1.heap.size + 1]? = _; have := heap_alloc_new (w1.alloc (.cells #[.int .i64 x2, .int .i64 y2] 47)) (.cells #[.int .i64 x1, .int .i64 y1] 47); rwa [World.size_alloc] at this)
      case rest =>
      obtain ⟨g1, g2, rfl, rfl, HP1, HP2, HBW⟩ := hcut
      obtain ⟨W, rfl⟩ : ∃ x : World, x = wc := ⟨_, rfl⟩
      have HBA0 := Lib.hid (HB1.out.trans HBW.out)
      have HT9 := Lib.hid (ht9.out.below HBA0.out)
      obtain ⟨b10, b11, _, _⟩ := two_cells HP1.out
      obtain ⟨b20, b21, _, _⟩ := two_cells HP2.out
      have wd1 : IntKind.i64.wrap (a - x1) = a - x1 := IntWalk.i64_in _ (by omega)
      have wd2 : IntKind.i64.wrap (y2 - y1) = y2 - y1 := IntWalk.i64_in _ (by omega)
      have wd3 : IntKind.i64.wrap (x2 - x1) = x2 - x1 := IntWalk.i64_in _ (by omega)
      have HNZ : Hid (((x2 - x1 : Int) : Rat) ≠ 0) := fun h => by
        have h8 : ((x2 - x1 : Int) : Rat) = ((0 : Int) : Rat) := h
        have := Rat.intCast_inj.1 h8
        omega
      have HTB := Lib.hid HT9.out
      clear r1 r2 s1 s2 hkw hkt hbAw hbA hbC
      go_upto_region 12 with (fail)
      go_cut [12] (fun v12 wx => ∃ (ga : Nat) (ng : Bool) (A9 : Option Addr) (n9 c9 : Nat) (D9 : Option Addr) (m9 d9 : Nat), v12 = .pointer (some ⟨ga, 0, none⟩) ∧ Hid (wx.heap[ga]? = some (.cells #[.bool ng, .slice A9 n9 c9, .slice D9 m9 d9] 64 (0, 0))) ∧ Hid (NumR wx wx.heap.size ng A9 n9 c9 D9 m9 d9 (lineQ (x1, y1) (x2, y2) a)) ∧ n9 ≤ 200 ∧ m9 ≤ 200 ∧ Hid (Below W.heap.size W wx) ∧ W.heap.size ≤ ga)
      case first =>
        refine wp_region_text 24 (fun x9 => x9.cell? ⟨g1, 0, none⟩ = some (.int .i64 x1) ∧ x9.cell? ⟨g1, 1, none⟩ = some (.int .i64 y1) ∧ x9.cell? ⟨g2, 0, none⟩ = some (.int .i64 x2) ∧ x9.cell? ⟨g2, 1, none⟩ = some (.int .i64 y2)) (by kernel_rfl) (by kernel_rfl) ?_
        obtain ⟨wc, hwc⟩ : ∃ x : World, x = W.drew := ⟨_, rfl⟩
        have hbn : Below W.heap.size W W.drew := (Below.refl _ _).drew
        have HT9 := Lib.hid (HT9.out.below hbn)
        clear hbn
        have HBc : Hid (Below W.heap.size W wc) := by show Below _ _ _; rw [hwc]; exact (Below.refl _ _).drew
        have hS : wc.cell? ⟨g1, 0, none⟩ = some (.int .i64 x1) ∧ wc.cell? ⟨g1, 1, none⟩ = some (.int .i64 y1) ∧ wc.cell? ⟨g2, 0, none⟩ = some (.int .i64 x2) ∧ wc.cell? ⟨g2, 1, none⟩ = some (.int .i64 y2) := by rw [hwc]; exact ⟨b10, b11, b20, b21⟩
        have hg_0 : g1 < wc.heap.size := by rw [hwc]; exact blk_lt HP1.out
        have hg_1 : g2 < wc.heap.size := by rw [hwc]; exact blk_lt HP2.out
        rw [← hwc] at HT9
        rw [← hwc]
        clear hwc
        refine HT.take (i := 0) (oi := _) (v := ?_) rfl (by kernel_rfl) (by kernel_rfl) (by decide) (fun _ _ _ h => h) (Or.inl ⟨by rfl, ?_⟩) hS ?_
        rotate_left
        · intro wz
          go_simp
          try with_reducible rfl
        simp only [List.getElem_toArray, List.getElem_cons_succ, List.getElem_cons_zero, Act.put, List.setIfInBounds_toArray, List.set_cons_zero, List.set_cons_succ]
        refine HT.load (i := 1) (oi := _) (v := ?_) rfl (by kernel_rfl) (by kernel_rfl) (by decide) (fun _ _ _ h => h) (by kernel_rfl) (Or.inl ⟨by rfl, ?_⟩) hS ?_
        rotate_left
        · intro wz hwz
          try dsimp only at hwz
          go_simp
          try with_reducible rfl
        simp only [List.getElem_toArray, List.getElem_cons_succ, List.getElem_cons_zero, Act.put, List.setIfInBounds_toArray, List.set_cons_zero, List.set_cons_succ]
        refine HT.take (i := 3) (oi := _) (v := ?_) rfl (by kernel_rfl) (by kernel_rfl) (by decide) (fun _ _ _ h => h) (Or.inl ⟨by rfl, ?_⟩) hS ?_
        rotate_left
        · intro wz
          go_simp
          try with_reducible rfl
        simp only [List.getElem_toArray, List.getElem_cons_succ, List.getElem_cons_zero, Act.put, List.setIfInBounds_toArray, List.set_cons_zero, List.set_cons_succ]
        refine HT.take (i := 4) (oi := _) (v := ?_) rfl (by kernel_rfl) (by kernel_rfl) (by decide) (fun _ _ _ h => h) (Or.inl ⟨by rfl, ?_⟩) hS ?_
        rotate_left
        · intro wz
          go_simp
          try with_reducible rfl
        simp only [List.getElem_toArray, List.getElem_cons_succ, List.getElem_cons_zero, Act.put, List.setIfInBounds_toArray, List.set_cons_zero, List.set_cons_succ]
        refine HT.load (i := 5) (oi := _) (v := ?_) rfl (by kernel_rfl) (by kernel_rfl) (by decide) (fun _ _ _ h => h) (by kernel_rfl) (Or.inl ⟨by rfl, ?_⟩) hS ?_
        rotate_left
        · intro wz hwz
          try dsimp only at hwz
          go_simp
          try with_reducible rfl
        simp only [List.getElem_toArray, List.getElem_cons_succ, List.getElem_cons_zero, Act.put, List.setIfInBounds_toArray, List.set_cons_zero, List.set_cons_succ]
        refine HT.take (i := 6) (oi := _) (v := ?_) rfl (by kernel_rfl) (by kernel_rfl) (by decide) (fun _ _ _ h => h) (Or.inl ⟨by rfl, ?_⟩) hS ?_
        rotate_left
        · intro wz
          go_simp
          try with_reducible rfl
        simp only [List.getElem_toArray, List.getElem_cons_succ, List.getElem_cons_zero, Act.put, List.setIfInBounds_toArray, List.set_cons_zero, List.set_cons_succ]
        refine HT.take (i := 8) (oi := _) (v := ?_) rfl (by kernel_rfl) (by kernel_rfl) (by decide) (fun _ _ _ h => h) (Or.inl ⟨by rfl, ?_⟩) hS ?_
        rotate_left
        · intro wz
          go_simp
          try with_reducible rfl
        simp only [List.getElem_toArray, List.getElem_cons_succ, List.getElem_cons_zero, Act.put, List.setIfInBounds_toArray, List.set_cons_zero, List.set_cons_succ]
        refine HT.load (i := 9) (oi := _) (v := ?_) rfl (by kernel_rfl) (by kernel_rfl) (by decide) (fun _ _ _ h => h) (by kernel_rfl) (Or.inl ⟨by rfl, ?_⟩) hS ?_
        rotate_left
        · intro wz hwz
          try dsimp only at hwz
          go_simp
          try with_reducible rfl
        simp only [List.getElem_toArray, List.getElem_cons_succ, List.getElem_cons_zero, Act.put, List.setIfInBounds_toArray, List.set_cons_zero, List.set_cons_succ]
        refine HT.take (i := 10) (oi := _) (v := ?_) rfl (by kernel_rfl) (by kernel_rfl) (by decide) (fun _ _ _ h => h) (Or.inl ⟨by rfl, ?_⟩) hS ?_
        rotate_left
        · intro wz
          go_simp
          try with_reducible rfl
        simp only [List.getElem_toArray, List.getElem_cons_succ, List.getElem_cons_zero, Act.put, List.setIfInBounds_toArray, List.set_cons_zero, List.set_cons_succ]
        refine HT.load (i := 11) (oi := _) (v := ?_) rfl (by kernel_rfl) (by kernel_rfl) (by decide) (fun _ _ _ h => h) (by kernel_rfl) (Or.inl ⟨by rfl, ?_⟩) hS ?_
        rotate_left
        · intro wz hwz
          try dsimp only at hwz
          go_simp
          try with_reducible rfl
        simp only [List.getElem_toArray, List.getElem_cons_succ, List.getElem_cons_zero, Act.put, List.setIfInBounds_toArray, List.set_cons_zero, List.set_cons_succ]
        refine HT.take (i := 12) (oi := _) (v := ?_) rfl (by kernel_rfl) (by kernel_rfl) (by decide) (fun _ _ _ h => h) (Or.inl ⟨by rfl, ?_⟩) hS ?_
        rotate_left
        · intro wz
          go_simp
          try with_reducible rfl
        simp only [List.getElem_toArray, List.getElem_cons_succ, List.getElem_cons_zero, Act.put, List.setIfInBounds_toArray, List.set_cons_zero, List.set_cons_succ]
        refine HT.take (i := 15) (oi := _) (v := ?_) rfl (by kernel_rfl) (by kernel_rfl) (by decide) (fun _ _ _ h => h) (Or.inl ⟨by rfl, ?_⟩) hS ?_
        rotate_left
        · intro wz
          go_simp
          try with_reducible rfl
        simp only [List.getElem_toArray, List.getElem_cons_succ, List.getElem_cons_zero, Act.put, List.setIfInBounds_toArray, List.set_cons_zero, List.set_cons_succ]
        refine HT.load (i := 16) (oi := _) (v := ?_) rfl (by kernel_rfl) (by kernel_rfl) (by decide) (fun _ _ _ h => h) (by kernel_rfl) (Or.inl ⟨by rfl, ?_⟩) hS ?_
        rotate_left
        · intro wz hwz
          try dsimp only at hwz
          go_simp
          try with_reducible rfl
        simp only [List.getElem_toArray, List.getElem_cons_succ, List.getElem_cons_zero, Act.put, List.setIfInBounds_toArray, List.set_cons_zero, List.set_cons_succ]
        refine HT.take (i := 17) (oi := _) (v := ?_) rfl (by kernel_rfl) (by kernel_rfl) (by decide) (fun _ _ _ h => h) (Or.inl ⟨by rfl, ?_⟩) hS ?_
        rotate_left
        · intro wz
          go_simp
          try with_reducible rfl
        simp only [List.getElem_toArray, List.getElem_cons_succ, List.getElem_cons_zero, Act.put, List.setIfInBounds_toArray, List.set_cons_zero, List.set_cons_succ]
        refine HT.load (i := 18) (oi := _) (v := ?_) rfl (by kernel_rfl) (by kernel_rfl) (by decide) (fun _ _ _ h => h) (by kernel_rfl) (Or.inl ⟨by rfl, ?_⟩) hS ?_
        rotate_left
        · intro wz hwz
          try dsimp only at hwz
          go_simp
          try with_reducible rfl
        simp only [List.getElem_toArray, List.getElem_cons_succ, List.getElem_cons_zero, Act.put, List.setIfInBounds_toArray, List.set_cons_zero, List.set_cons_succ]
        refine HT.take (i := 19) (oi := _) (v := ?_) rfl (by kernel_rfl) (by kernel_rfl) (by decide) (fun _ _ _ h => h) (Or.inl ⟨by rfl, ?_⟩) hS ?_
        rotate_left
        · intro wz
          go_simp
          try with_reducible rfl
        simp only [List.getElem_toArray, List.getElem_cons_succ, List.getElem_cons_zero, Act.put, List.setIfInBounds_toArray, List.set_cons_zero, List.set_cons_succ]
        refine HT.two 2 23 (o := _) (o' := _) rfl rfl (by kernel_rfl) (by decide) (by decide) (by rfl) (by rfl) ?_ ?_
        · intro K hK
          go_simp
          refine (RINT_any (y1) (by omega) (by omega) _ HT9).mono ?_
          rintro e wn ⟨ng1, A1, n1, c1, D1, m1, d1, rfl, hH1, k1, l1, hbn⟩
          have H1 := Lib.hid hH1
          clear hH1
          replace HT9 := Lib.hid (HT9.out.below hbn)
          have HBn := Lib.hid (HBc.out.trans (hbn.mono HBc.out.size))
          have hSn : wn.cell? ⟨g1, 0, none⟩ = some (.int .i64 x1) ∧ wn.cell? ⟨g1, 1, none⟩ = some (.int .i64 y1) ∧ wn.cell? ⟨g2, 0, none⟩ = some (.int .i64 x2) ∧ wn.cell? ⟨g2, 1, none⟩ = some (.int .i64 y2) := ⟨(hbn.cell (p := ⟨g1, 0, none⟩) hg_0).trans hS.1, (hbn.cell (p := ⟨g1, 1, none⟩) hg_0).trans hS.2.1, (hbn.cell (p := ⟨g2, 0, none⟩) hg_1).trans hS.2.2.1, (hbn.cell (p := ⟨g2, 1, none⟩) hg_1).trans hS.2.2.2⟩
          have hgn_0 := Nat.lt_of_lt_of_le hg_0 hbn.size
          have hgn_1 := Nat.lt_of_lt_of_le hg_1 hbn.size
          refine hK.out _ _ hSn ?_
          clear hK K hS HBc hg_0 hg_1
          try simp only [List.getElem_toArray, List.getElem_cons_succ, List.getElem_cons_zero, Act.put, List.setIfInBounds_toArray, List.set_cons_zero, List.set_cons_succ]
          have hS := hSn
          have HBc := HBn
          have hg_0 := hgn_0
          have hg_1 := hgn_1
          clear hSn HBn hbn hgn_0 hgn_1
          obtain ⟨wc, rfl⟩ : ∃ x : World, x = wn := ⟨_, rfl⟩
          refine HT.two 7 23 (o := _) (o' := _) rfl rfl (by kernel_rfl) (by decide) (by decide) (by rfl) (by rfl) ?_ ?_
          · intro K hK
            go_simp
            refine (RINT_any (a - x1) (by omega) (by omega) _ HT9).mono ?_
            rintro e wn ⟨ng2, A2, n2, c2, D2, m2, d2, rfl, hH2, k2, l2, hbn⟩
            have H2 := Lib.hid hH2
            clear hH2
            replace HT9 := Lib.hid (HT9.out.below hbn)
            replace H1 := Lib.hid (H1.out.to hbn (Nat.le_refl _) hbn.size)
            have HBn := Lib.hid (HBc.out.trans (hbn.mono HBc.out.size))
            have hSn : wn.cell? ⟨g1, 0, none⟩ = some (.int .i64 x1) ∧ wn.cell? ⟨g1, 1, none⟩ = some (.int .i64 y1) ∧ wn.cell? ⟨g2, 0, none⟩ = some (.int .i64 x2) ∧ wn.cell? ⟨g2, 1, none⟩ = some (.int .i64 y2) := ⟨(hbn.cell (p := ⟨g1, 0, none⟩) hg_0).trans hS.1, (hbn.cell (p := ⟨g1, 1, none⟩) hg_0).trans hS.2.1, (hbn.cell (p := ⟨g2, 0, none⟩) hg_1).trans hS.2.2.1, (hbn.cell (p := ⟨g2, 1, none⟩) hg_1).trans hS.2.2.2⟩
            have hgn_0 := Nat.lt_of_lt_of_le hg_0 hbn.size
            have hgn_1 := Nat.lt_of_lt_of_le hg_1 hbn.size
            refine hK.out _ _ hSn ?_
            clear hK K hS HBc hg_0 hg_1
            try simp only [List.getElem_toArray, List.getElem_cons_succ, List.getElem_cons_zero, Act.put, List.setIfInBounds_toArray, List.set_cons_zero, List.set_cons_succ]
            have hS := hSn
            have HBc := HBn
            have hg_0 := hgn_0
            have hg_1 := hgn_1
            clear hSn HBn hbn hgn_0 hgn_1
            obtain ⟨wc, rfl⟩ : ∃ x : World, x = wn := ⟨_, rfl⟩
            refine HT.two 13 23 (o := _) (o' := _) rfl rfl (by kernel_rfl) (by decide) (by decide) (by rfl) (by rfl) ?_ ?_
            · intro K hK
              go_simp
              refine (RINT_any (y2 - y1) (by omega) (by omega) _ HT9).mono ?_
              rintro e wn ⟨ng3, A3, n3, c3, D3, m3, d3, rfl, hH3, k3, l3, hbn⟩
              have H3 := Lib.hid hH3
              clear hH3
              replace HT9 := Lib.hid (HT9.out.below hbn)
              replace H1 := Lib.hid (H1.out.to hbn (Nat.le_refl _) hbn.size)
              replace H2 := Lib.hid (H2.out.to hbn (Nat.le_refl _) hbn.size)
              have HBn := Lib.hid (HBc.out.trans (hbn.mono HBc.out.size))
              have hSn : wn.cell? ⟨g1, 0, none⟩ = some (.int .i64 x1) ∧ wn.cell? ⟨g1, 1, none⟩ = some (.int .i64 y1) ∧ wn.cell? ⟨g2, 0, none⟩ = some (.int .i64 x2) ∧ wn.cell? ⟨g2, 1, none⟩ = some (.int .i64 y2) := ⟨(hbn.cell (p := ⟨g1, 0, none⟩) hg_0).trans hS.1, (hbn.cell (p := ⟨g1, 1, none⟩) hg_0).trans hS.2.1, (hbn.cell (p := ⟨g2, 0, none⟩) hg_1).trans hS.2.2.1, (hbn.cell (p := ⟨g2, 1, none⟩) hg_1).trans hS.2.2.2⟩
              have hgn_0 := Nat.lt_of_lt_of_le hg_0 hbn.size
              have hgn_1 := Nat.lt_of_lt_of_le hg_1 hbn.size
              refine hK.out _ _ hSn ?_
              clear hK K hS HBc hg_0 hg_1
              try simp only [List.getElem_toArray, List.getElem_cons_succ, List.getElem_cons_zero, Act.put, List.setIfInBounds_toArray, List.set_cons_zero, List.set_cons_succ]
              have hS := hSn
              have HBc := HBn
              have hg_0 := hgn_0
              have hg_1 := hgn_1
              clear hSn HBn hbn hgn_0 hgn_1
              obtain ⟨wc, rfl⟩ : ∃ x : World, x = wn := ⟨_, rfl⟩
              refine HT.two 14 23 (o := _) (o' := _) rfl rfl (by kernel_rfl) (by decide) (by decide) (by rfl) (by rfl) ?_ ?_
              · intro K hK
                go_simp
                refine (RNTIMES_any ng2 ng3 A2 A3 D2 D3 n2 c2 m2 d2 n3 c3 m3 d3 _ _ (by omega) (by omega) (by omega) (by omega) _ wc.heap.size (Nat.le_refl _) H2 H3).mono ?_
                rintro e wn ⟨ng4, A4, n4, c4, D4, m4, d4, rfl, hH4, k4, l4, hbn⟩
                have H4 := Lib.hid hH4
                clear hH4
                clear H2 H3
                replace HT9 := Lib.hid (HT9.out.below hbn)
                replace H1 := Lib.hid (H1.out.to hbn (Nat.le_refl _) hbn.size)
                have HBn := Lib.hid (HBc.out.trans (hbn.mono HBc.out.size))
                have hSn : wn.cell? ⟨g1, 0, none⟩ = some (.int .i64 x1) ∧ wn.cell? ⟨g1, 1, none⟩ = some (.int .i64 y1) ∧ wn.cell? ⟨g2, 0, none⟩ = some (.int .i64 x2) ∧ wn.cell? ⟨g2, 1, none⟩ = some (.int .i64 y2) := ⟨(hbn.cell (p := ⟨g1, 0, none⟩) hg_0).trans hS.1, (hbn.cell (p := ⟨g1, 1, none⟩) hg_0).trans hS.2.1, (hbn.cell (p := ⟨g2, 0, none⟩) hg_1).trans hS.2.2.1, (hbn.cell (p := ⟨g2, 1, none⟩) hg_1).trans hS.2.2.2⟩
                have hgn_0 := Nat.lt_of_lt_of_le hg_0 hbn.size
                have hgn_1 := Nat.lt_of_lt_of_le hg_1 hbn.size
                refine hK.out _ _ hSn ?_
                clear hK K hS HBc hg_0 hg_1
                try simp only [List.getElem_toArray, List.getElem_cons_succ, List.getElem_cons_zero, Act.put, List.setIfInBounds_toArray, List.set_cons_zero, List.set_cons_succ]
                have hS := hSn
                have HBc := HBn
                have hg_0 := hgn_0
                have hg_1 := hgn_1
                clear hSn HBn hbn hgn_0 hgn_1
                obtain ⟨wc, rfl⟩ : ∃ x : World, x = wn := ⟨_, rfl⟩
                refine HT.two 20 23 (o := _) (o' := _) rfl rfl (by kernel_rfl) (by decide) (by decide) (by rfl) (by rfl) ?_ ?_
                · intro K hK
                  go_simp
                  refine (RINT_any (x2 - x1) (by omega) (by omega) _ HT9).mono ?_
                  rintro e wn ⟨ng5, A5, n5, c5, D5, m5, d5, rfl, hH5, k5, l5, hbn⟩
                  have H5 := Lib.hid hH5
                  clear hH5
                  replace HT9 := Lib.hid (HT9.out.below hbn)
                  replace H1 := Lib.hid (H1.out.to hbn (Nat.le_refl _) hbn.size)
                  replace H4 := Lib.hid (H4.out.to hbn (Nat.le_refl _) hbn.size)
                  have HBn := Lib.hid (HBc.out.trans (hbn.mono HBc.out.size))
                  have hSn : wn.cell? ⟨g1, 0, none⟩ = some (.int .i64 x1) ∧ wn.cell? ⟨g1, 1, none⟩ = some (.int .i64 y1) ∧ wn.cell? ⟨g2, 0, none⟩ = some (.int .i64 x2) ∧ wn.cell? ⟨g2, 1, none⟩ = some (.int .i64 y2) := ⟨(hbn.cell (p := ⟨g1, 0, none⟩) hg_0).trans hS.1, (hbn.cell (p := ⟨g1, 1, none⟩) hg_0).trans hS.2.1, (hbn.cell (p := ⟨g2, 0, none⟩) hg_1).trans hS.2.2.1, (hbn.cell (p := ⟨g2, 1, none⟩) hg_1).trans hS.2.2.2⟩
                  have hgn_0 := Nat.lt_of_lt_of_le hg_0 hbn.size
                  have hgn_1 := Nat.lt_of_lt_of_le hg_1 hbn.size
                  refine hK.out _ _ hSn ?_
                  clear hK K hS HBc hg_0 hg_1
                  try simp only [List.getElem_toArray, List.getElem_cons_succ, List.getElem_cons_zero, Act.put, List.setIfInBounds_toArray, List.set_cons_zero, List.set_cons_succ]
                  have hS := hSn
                  have HBc := HBn
                  have hg_0 := hgn_0
                  have hg_1 := hgn_1
                  clear hSn HBn hbn hgn_0 hgn_1
                  obtain ⟨wc, rfl⟩ : ∃ x : World, x = wn := ⟨_, rfl⟩
                  refine HT.two 21 23 (o := _) (o' := _) rfl rfl (by kernel_rfl) (by decide) (by decide) (by rfl) (by rfl) ?_ ?_
                  · intro K hK
                    go_simp
                    refine (ROVER_any ng4 ng5 A4 A5 D4 D5 n4 c4 m4 d4 n5 c5 m5 d5 _ _ (by omega) (by omega) (by omega) (by omega) HNZ.out _ wc.heap.size (Nat.le_refl _) H4 H5).mono ?_
                    rintro e wn ⟨ng6, A6, n6, c6, D6, m6, d6, rfl, hH6, k6, l6, hbn⟩
                    have H6 := Lib.hid hH6
                    clear hH6
                    clear H4 H5
                    replace HT9 := Lib.hid (HT9.out.below hbn)
                    replace H1 := Lib.hid (H1.out.to hbn (Nat.le_refl _) hbn.size)
                    have HBn := Lib.hid (HBc.out.trans (hbn.mono HBc.out.size))
                    have hSn : wn.cell? ⟨g1, 0, none⟩ = some (.int .i64 x1) ∧ wn.cell? ⟨g1, 1, none⟩ = some (.int .i64 y1) ∧ wn.cell? ⟨g2, 0, none⟩ = some (.int .i64 x2) ∧ wn.cell? ⟨g2, 1, none⟩ = some (.int .i64 y2) := ⟨(hbn.cell (p := ⟨g1, 0, none⟩) hg_0).trans hS.1, (hbn.cell (p := ⟨g1, 1, none⟩) hg_0).trans hS.2.1, (hbn.cell (p := ⟨g2, 0, none⟩) hg_1).trans hS.2.2.1, (hbn.cell (p := ⟨g2, 1, none⟩) hg_1).trans hS.2.2.2⟩
                    have hgn_0 := Nat.lt_of_lt_of_le hg_0 hbn.size
                    have hgn_1 := Nat.lt_of_lt_of_le hg_1 hbn.size
                    refine hK.out _ _ hSn ?_
                    clear hK K hS HBc hg_0 hg_1
                    try simp only [List.getElem_toArray, List.getElem_cons_succ, List.getElem_cons_zero, Act.put, List.setIfInBounds_toArray, List.set_cons_zero, List.set_cons_succ]
                    have hS := hSn
                    have HBc := HBn
                    have hg_0 := hgn_0
                    have hg_1 := hgn_1
                    clear hSn HBn hbn hgn_0 hgn_1
                    obtain ⟨wc, rfl⟩ : ∃ x : World, x = wn := ⟨_, rfl⟩
                    refine HT.two 22 23 (o := _) (o' := _) rfl rfl (by kernel_rfl) (by decide) (by decide) (by rfl) (by rfl) ?_ ?_
                    · intro K hK
                      go_simp
                      refine (RPLUS_any ng1 ng6 A1 A6 D1 D6 n1 c1 m1 d1 n6 c6 m6 d6 _ _ (by omega) (by omega) (by omega) (by omega) _ wc.heap.size (Nat.le_refl _) H1 H6).mono ?_
                      rintro e wn ⟨ng7, A7, n7, c7, D7, m7, d7, rfl, hH7, k7, l7, hbn⟩
                      have H7 := Lib.hid hH7
                      clear hH7
                      clear H1 H6
                      replace HT9 := Lib.hid (HT9.out.below hbn)
                      have HBn := Lib.hid (HBc.out.trans (hbn.mono HBc.out.size))
                      have hSn : wn.cell? ⟨g1, 0, none⟩ = some (.int .i64 x1) ∧ wn.cell? ⟨g1, 1, none⟩ = some (.int .i64 y1) ∧ wn.cell? ⟨g2, 0, none⟩ = some (.int .i64 x2) ∧ wn.cell? ⟨g2, 1, none⟩ = some (.int .i64 y2) := ⟨(hbn.cell (p := ⟨g1, 0, none⟩) hg_0).trans hS.1, (hbn.cell (p := ⟨g1, 1, none⟩) hg_0).trans hS.2.1, (hbn.cell (p := ⟨g2, 0, none⟩) hg_1).trans hS.2.2.1, (hbn.cell (p := ⟨g2, 1, none⟩) hg_1).trans hS.2.2.2⟩
                      have hgn_0 := Nat.lt_of_lt_of_le hg_0 hbn.size
                      have hgn_1 := Nat.lt_of_lt_of_le hg_1 hbn.size
                      refine hK.out _ _ hSn ?_
                      clear hK K hS HBc hg_0 hg_1
                      try simp only [List.getElem_toArray, List.getElem_cons_succ, List.getElem_cons_zero, Act.put, List.setIfInBounds_toArray, List.set_cons_zero, List.set_cons_succ]
                      have hS := hSn
                      have HBc := HBn
                      have hg_0 := hgn_0
                      have hg_1 := hgn_1
                      clear hSn HBn hbn hgn_0 hgn_1
                      obtain ⟨wc, rfl⟩ : ∃ x : World, x = wn := ⟨_, rfl⟩
                      refine HT.one (i := 23) (o := _) rfl (by kernel_rfl) (by decide) (by rfl) ?_
                      intro K hK
                      go_simp
                      obtain ⟨wn, ga, hwn, hga9, hHA, hbn0, _⟩ := cell_new0 wc 64 #[.bool false, .slice none 0 0, .slice none 0 0]
                      have hbn := hbn0.out
                      have HGga : Hid (W.heap.size ≤ ga) := by show _ ≤ _; rw [hga9]; exact HBc.out.size
                      rw [← hwn, ← hga9]
                      have HA := hHA
                      clear hwn hga9 hbn0 hHA
                      replace HT9 := Lib.hid (HT9.out.below hbn)
                      replace H7 := Lib.hid (H7.out.to hbn (Nat.le_refl _) hbn.size)
                      have HBn := Lib.hid (HBc.out.trans (hbn.mono HBc.out.size))
                      have hSn : wn.cell? ⟨g1, 0, none⟩ = some (.int .i64 x1) ∧ wn.cell? ⟨g1, 1, none⟩ = some (.int .i64 y1) ∧ wn.cell? ⟨g2, 0, none⟩ = some (.int .i64 x2) ∧ wn.cell? ⟨g2, 1, none⟩ = some (.int .i64 y2) := ⟨(hbn.cell (p := ⟨g1, 0, none⟩) hg_0).trans hS.1, (hbn.cell (p := ⟨g1, 1, none⟩) hg_0).trans hS.2.1, (hbn.cell (p := ⟨g2, 0, none⟩) hg_1).trans hS.2.2.1, (hbn.cell (p := ⟨g2, 1, none⟩) hg_1).trans hS.2.2.2⟩
                      have hgn_0 := Nat.lt_of_lt_of_le hg_0 hbn.size
                      have hgn_1 := Nat.lt_of_lt_of_le hg_1 hbn.size
                      refine hK.out _ _ hSn ?_
                      clear hK K hS HBc hg_0 hg_1
                      try simp only [List.getElem_toArray, List.getElem_cons_succ, List.getElem_cons_zero, Act.put, List.setIfInBounds_toArray, List.set_cons_zero, List.set_cons_succ]
                      have hS := hSn
                      have HBc := HBn
                      have hg_0 := hgn_0
                      have hg_1 := hgn_1
                      clear hSn HBn hbn hgn_0 hgn_1
                      obtain ⟨wc, rfl⟩ : ∃ x : World, x = wn := ⟨_, rfl⟩
                      obtain ⟨hr0, hr1, hr2, hf0, hf1, hf2⟩ := three_cells HA.out
                      refine HT.done (by kernel_rfl) ?_
                      clear hS
                      simp only [List.drop_succ_cons, List.drop_zero]
                      have HAS := Lib.hid (box3_heap (v0 := .bool ng7) (v1 := .slice A7 n7 c7) (v2 := .slice D7 m7 d7) HA.out)
                      have HRS := Lib.hid (H7.out.box3 (g := ga) ⟨_, _, HA.out⟩ (by decide) (.bool ng7) (.slice A7 n7 c7) (.slice D7 m7 d7))
                      have HBS := Lib.hid (box3_below (v0 := .bool ng7) (v1 := .slice A7 n7 c7) (v2 := .slice D7 m7 d7) HBc.out HGga.out)
                      go_wp2_with fail
                      go_meet
                      exact ⟨ga, ng7, A7, n7, c7, D7, m7, d7, rfl, HAS, HRS, by omega, by omega, HBS, HGga.out⟩
                      -- H7 HA HGga HT9
                    · intro K hK
                      go_simp
                      obtain ⟨wn, ga, hwn, hga9, hHA, hbn0, _⟩ := cell_new0 wc 64 #[.bool false, .slice none 0 0, .slice none 0 0]
                      have hbn := hbn0.out
                      have HGga : Hid (W.heap.size ≤ ga) := by show _ ≤ _; rw [hga9]; exact HBc.out.size
                      rw [← hwn, ← hga9]
                      have HA := hHA
                      clear hwn hga9 hbn0 hHA
                      replace HT9 := Lib.hid (HT9.out.below hbn)
                      replace H1 := Lib.hid (H1.out.to hbn (Nat.le_refl _) hbn.size)
                      replace H6 := Lib.hid (H6.out.to hbn (Nat.le_refl _) hbn.size)
                      have HBn := Lib.hid (HBc.out.trans (hbn.mono HBc.out.size))
                      have hSn : wn.cell? ⟨g1, 0, none⟩ = some (.int .i64 x1) ∧ wn.cell? ⟨g1, 1, none⟩ = some (.int .i64 y1) ∧ wn.cell? ⟨g2, 0, none⟩ = some (.int .i64 x2) ∧ wn.cell? ⟨g2, 1, none⟩ = some (.int .i64 y2) := ⟨(hbn.cell (p := ⟨g1, 0, none⟩) hg_0).trans hS.1, (hbn.cell (p := ⟨g1, 1, none⟩) hg_0).trans hS.2.1, (hbn.cell (p := ⟨g2, 0, none⟩) hg_1).trans hS.2.2.1, (hbn.cell (p := ⟨g2, 1, none⟩) hg_1).trans hS.2.2.2⟩
                      have hgn_0 := Nat.lt_of_lt_of_le hg_0 hbn.size
                      have hgn_1 := Nat.lt_of_lt_of_le hg_1 hbn.size
                      refine hK.out _ _ hSn ?_
                      clear hK K hS HBc hg_0 hg_1
                      try simp only [List.getElem_toArray, List.getElem_cons_succ, List.getElem_cons_zero, Act.put, List.setIfInBounds_toArray, List.set_cons_zero, List.set_cons_succ]
                      have hS := hSn
                      have HBc := HBn
                      have hg_0 := hgn_0
                      have hg_1 := hgn_1
                      clear hSn HBn hbn hgn_0 hgn_1
                      obtain ⟨wc, rfl⟩ : ∃ x : World, x = wn := ⟨_, rfl⟩
                      refine HT.one (i := 22) (o := _) rfl (by kernel_rfl) (by decide) (by rfl) ?_
                      intro K hK
                      go_simp
                      refine (RPLUS_any ng1 ng6 A1 A6 D1 D6 n1 c1 m1 d1 n6 c6 m6 d6 _ _ (by omega) (by omega) (by omega) (by omega) _ wc.heap.size (Nat.le_refl _) H1 H6).mono ?_
                      rintro e wn ⟨ng7, A7, n7, c7, D7, m7, d7, rfl, hH7, k7, l7, hbn⟩
                      have H7 := Lib.hid hH7
                      clear hH7
                      clear H1 H6
                      replace HT9 := Lib.hid (HT9.out.below hbn)
                      replace HA := Lib.hid ((hbn.block ga (blk_lt HA.out)).trans HA.out)
                      have HBn := Lib.hid (HBc.out.trans (hbn.mono HBc.out.size))
                      have hSn : wn.cell? ⟨g1, 0, none⟩ = some (.int .i64 x1) ∧ wn.cell? ⟨g1, 1, none⟩ = some (.int .i64 y1) ∧ wn.cell? ⟨g2, 0, none⟩ = some (.int .i64 x2) ∧ wn.cell? ⟨g2, 1, none⟩ = some (.int .i64 y2) := ⟨(hbn.cell (p := ⟨g1, 0, none⟩) hg_0).trans hS.1, (hbn.cell (p := ⟨g1, 1, none⟩) hg_0).trans hS.2.1, (hbn.cell (p := ⟨g2, 0, none⟩) hg_1).trans hS.2.2.1, (hbn.cell (p := ⟨g2, 1, none⟩) hg_1).trans hS.2.2.2⟩
                      have hgn_0 := Nat.lt_of_lt_of_le hg_0 hbn.size
                      have hgn_1 := Nat.lt_of_lt_of_le hg_1 hbn.size
                      refine hK.out _ _ hSn ?_
                      clear hK K hS HBc hg_0 hg_1
                      try simp only [List.getElem_toArray, List.getElem_cons_succ, List.getElem_cons_zero, Act.put, List.setIfInBounds_toArray, List.set_cons_zero, List.set_cons_succ]
                      have hS := hSn
                      have HBc := HBn
                      have hg_0 := hgn_0
                      have hg_1 := hgn_1
                      clear hSn HBn hbn hgn_0 hgn_1
                      obtain ⟨wc, rfl⟩ : ∃ x : World, x = wn := ⟨_, rfl⟩
                      obtain ⟨hr0, hr1, hr2, hf0, hf1, hf2⟩ := three_cells HA.out
                      refine HT.done (by kernel_rfl) ?_
                      clear hS
                      simp only [List.drop_succ_cons, List.drop_zero]
                      have HAS := Lib.hid (box3_heap (v0 := .bool ng7) (v1 := .slice A7 n7 c7) (v2 := .slice D7 m7 d7) HA.out)
                      have HRS := Lib.hid (H7.out.box3 (g := ga) ⟨_, _, HA.out⟩ (by decide) (.bool ng7) (.slice A7 n7 c7) (.slice D7 m7 d7))
                      have HBS := Lib.hid (box3_below (v0 := .bool ng7) (v1 := .slice A7 n7 c7) (v2 := .slice D7 m7 d7) HBc.out HGga.out)
                      go_wp2_with fail
                      go_meet
                      exact ⟨ga, ng7, A7, n7, c7, D7, m7, d7, rfl, HAS, HRS, by omega, by omega, HBS, HGga.out⟩
                      -- H7 HA HGga HT9
                  · intro K hK
                    go_simp
                    obtain ⟨wn, ga, hwn, hga9, hHA, hbn0, _⟩ := cell_new0 wc 64 #[.bool false, .slice none 0 0, .slice none 0 0]
                    have hbn := hbn0.out
                    have HGga : Hid (W.heap.size ≤ ga) := by show _ ≤ _; rw [hga9]; exact HBc.out.size
                    rw [← hwn, ← hga9]
                    have HA := hHA
                    clear hwn hga9 hbn0 hHA
                    replace HT9 := Lib.hid (HT9.out.below hbn)
                    replace H1 := Lib.hid (H1.out.to hbn (Nat.le_refl _) hbn.size)
                    replace H4 := Lib.hid (H4.out.to hbn (Nat.le_refl _) hbn.size)
                    replace H5 := Lib.hid (H5.out.to hbn (Nat.le_refl _) hbn.size)
                    have HBn := Lib.hid (HBc.out.trans (hbn.mono HBc.out.size))
                    have hSn : wn.cell? ⟨g1, 0, none⟩ = some (.int .i64 x1) ∧ wn.cell? ⟨g1, 1, none⟩ = some (.int .i64 y1) ∧ wn.cell? ⟨g2, 0, none⟩ = some (.int .i64 x2) ∧ wn.cell? ⟨g2, 1, none⟩ = some (.int .i64 y2) := ⟨(hbn.cell (p := ⟨g1, 0, none⟩) hg_0).trans hS.1, (hbn.cell (p := ⟨g1, 1, none⟩) hg_0).trans hS.2.1, (hbn.cell (p := ⟨g2, 0, none⟩) hg_1).trans hS.2.2.1, (hbn.cell (p := ⟨g2, 1, none⟩) hg_1).trans hS.2.2.2⟩
                    have hgn_0 := Nat.lt_of_lt_of_le hg_0 hbn.size
                    have hgn_1 := Nat.lt_of_lt_of_le hg_1 hbn.size
                    refine hK.out _ _ hSn ?_
                    clear hK K hS HBc hg_0 hg_1
                    try simp only [List.getElem_toArray, List.getElem_cons_succ, List.getElem_cons_zero, Act.put, List.setIfInBounds_toArray, List.set_cons_zero, List.set_cons_succ]
                    have hS := hSn
                    have HBc := HBn
                    have hg_0 := hgn_0
                    have hg_1 := hgn_1
                    clear hSn HBn hbn hgn_0 hgn_1
                    obtain ⟨wc, rfl⟩ : ∃ x : World, x = wn := ⟨_, rfl⟩
                    refine HT.one (i := 21) (o := _) rfl (by kernel_rfl) (by decide) (by rfl) ?_
                    intro K hK
                    go_simp
                    refine (ROVER_any ng4 ng5 A4 A5 D4 D5 n4 c4 m4 d4 n5 c5 m5 d5 _ _ (by omega) (by omega) (by omega) (by omega) HNZ.out _ wc.heap.size (Nat.le_refl _) H4 H5).mono ?_
                    rintro e wn ⟨ng6, A6, n6, c6, D6, m6, d6, rfl, hH6, k6, l6, hbn⟩
                    have H6 := Lib.hid hH6
                    clear hH6
                    clear H4 H5
                    replace HT9 := Lib.hid (HT9.out.below hbn)
                    replace H1 := Lib.hid (H1.out.to hbn (Nat.le_refl _) hbn.size)
                    replace HA := Lib.hid ((hbn.block ga (blk_lt HA.out)).trans HA.out)
                    have HBn := Lib.hid (HBc.out.trans (hbn.mono HBc.out.size))
                    have hSn : wn.cell? ⟨g1, 0, none⟩ = some (.int .i64 x1) ∧ wn.cell? ⟨g1, 1, none⟩ = some (.int .i64 y1) ∧ wn.cell? ⟨g2, 0, none⟩ = some (.int .i64 x2) ∧ wn.cell? ⟨g2, 1, none⟩ = some (.int .i64 y2) := ⟨(hbn.cell (p := ⟨g1, 0, none⟩) hg_0).trans hS.1, (hbn.cell (p := ⟨g1, 1, none⟩) hg_0).trans hS.2.1, (hbn.cell (p := ⟨g2, 0, none⟩) hg_1).trans hS.2.2.1, (hbn.cell (p := ⟨g2, 1, none⟩) hg_1).trans hS.2.2.2⟩
                    have hgn_0 := Nat.lt_of_lt_of_le hg_0 hbn.size
                    have hgn_1 := Nat.lt_of_lt_of_le hg_1 hbn.size
                    refine hK.out _ _ hSn ?_
                    clear hK K hS HBc hg_0 hg_1
                    try simp only [List.getElem_toArray, List.getElem_cons_succ, List.getElem_cons_zero, Act.put, List.setIfInBounds_toArray, List.set_cons_zero, List.set_cons_succ]
                    have hS := hSn
                    have HBc := HBn
                    have hg_0 := hgn_0
                    have hg_1 := hgn_1
                    clear hSn HBn hbn hgn_0 hgn_1
                    obtain ⟨wc, rfl⟩ : ∃ x : World, x = wn := ⟨_, rfl⟩
                    refine HT.one (i := 22) (o := _) rfl (by kernel_rfl) (by decide) (by rfl) ?_
                    intro K hK
                    go_simp
                    refine (RPLUS_any ng1 ng6 A1 A6 D1 D6 n1 c1 m1 d1 n6 c6 m6 d6 _ _ (by omega) (by omega) (by omega) (by omega) _ wc.heap.size (Nat.le_refl _) H1 H6).mono ?_
                    rintro e wn ⟨ng7, A7, n7, c7, D7, m7, d7, rfl, hH7, k7, l7, hbn⟩
                    have H7 := Lib.hid hH7
                    clear hH7
                    clear H1 H6
                    replace HT9 := Lib.hid (HT9.out.below hbn)
                    replace HA := Lib.hid ((hbn.block ga (blk_lt HA.out)).trans HA.out)
                    have HBn := Lib.hid (HBc.out.trans (hbn.mono HBc.out.size))
                    have hSn : wn.cell? ⟨g1, 0, none⟩ = some (.int .i64 x1) ∧ wn.cell? ⟨g1, 1, none⟩ = some (.int .i64 y1) ∧ wn.cell? ⟨g2, 0, none⟩ = some (.int .i64 x2) ∧ wn.cell? ⟨g2, 1, none⟩ = some (.int .i64 y2) := ⟨(hbn.cell (p := ⟨g1, 0, none⟩) hg_0).trans hS.1, (hbn.cell (p := ⟨g1, 1, none⟩) hg_0).trans hS.2.1, (hbn.cell (p := ⟨g2, 0, none⟩) hg_1).trans hS.2.2.1, (hbn.cell (p := ⟨g2, 1, none⟩) hg_1).trans hS.2.2.2⟩
                    have hgn_0 := Nat.lt_of_lt_of_le hg_0 hbn.size
                    have hgn_1 := Nat.lt_of_lt_of_le hg_1 hbn.size
                    refine hK.out _ _ hSn ?_
                    clear hK K hS HBc hg_0 hg_1
                    try simp only [List.getElem_toArray, List.getElem_cons_succ, List.getElem_cons_zero, Act.put, List.setIfInBounds_toArray, List.set_cons_zero, List.set_cons_succ]
                    have hS := hSn
                    have HBc := HBn
                    have hg_0 := hgn_0
                    have hg_1 := hgn_1
                    clear hSn HBn hbn hgn_0 hgn_1
                    obtain ⟨wc, rfl⟩ : ∃ x : World, x = wn := ⟨_, rfl⟩
                    obtain ⟨hr0, hr1, hr2, hf0, hf1, hf2⟩ := three_cells HA.out
                    refine HT.done (by kernel_rfl) ?_
                    clear hS
                    simp only [List.drop_succ_cons, List.drop_zero]
                    have HAS := Lib.hid (box3_heap (v0 := .bool ng7) (v1 := .slice A7 n7 c7) (v2 := .slice D7 m7 d7) HA.out)
                    have HRS := Lib.hid (H7.out.box3 (g := ga) ⟨_, _, HA.out⟩ (by decide) (.bool ng7) (.slice A7 n7 c7) (.slice D7 m7 d7))
                    have HBS := Lib.hid (box3_below (v0 := .bool ng7) (v1 := .slice A7 n7 c7) (v2 := .slice D7 m7 d7) HBc.out HGga.out)
                    go_wp2_with fail
                    go_meet
                    exact ⟨ga, ng7, A7, n7, c7, D7, m7, d7, rfl, HAS, HRS, by omega, by omega, HBS, HGga.out⟩
                    -- H7 HA HGga HT9
                · intro K hK
                  go_simp
                  obtain ⟨wn, ga, hwn, hga9, hHA, hbn0, _⟩ := cell_new0 wc 64 #[.bool false, .slice none 0 0, .slice none 0 0]
                  have hbn := hbn0.out
                  have HGga : Hid (W.heap.size ≤ ga) := by show _ ≤ _; rw [hga9]; exact HBc.out.size
                  rw [← hwn, ← hga9]
                  have HA := hHA
                  clear hwn hga9 hbn0 hHA
                  replace HT9 := Lib.hid (HT9.out.below hbn)
                  replace H1 := Lib.hid (H1.out.to hbn (Nat.le_refl _) hbn.size)
                  replace H4 := Lib.hid (H4.out.to hbn (Nat.le_refl _) hbn.size)
                  have HBn := Lib.hid (HBc.out.trans (hbn.mono HBc.out.size))
                  have hSn : wn.cell? ⟨g1, 0, none⟩ = some (.int .i64 x1) ∧ wn.cell? ⟨g1, 1, none⟩ = some (.int .i64 y1) ∧ wn.cell? ⟨g2, 0, none⟩ = some (.int .i64 x2) ∧ wn.cell? ⟨g2, 1, none⟩ = some (.int .i64 y2) := ⟨(hbn.cell (p := ⟨g1, 0, none⟩) hg_0).trans hS.1, (hbn.cell (p := ⟨g1, 1, none⟩) hg_0).trans hS.2.1, (hbn.cell (p := ⟨g2, 0, none⟩) hg_1).trans hS.2.2.1, (hbn.cell (p := ⟨g2, 1, none⟩) hg_1).trans hS.2.2.2⟩
                  have hgn_0 := Nat.lt_of_lt_of_le hg_0 hbn.size
                  have hgn_1 := Nat.lt_of_lt_of_le hg_1 hbn.size
                  refine hK.out _ _ hSn ?_
                  clear hK K hS HBc hg_0 hg_1
                  try simp only [List.getElem_toArray, List.getElem_cons_succ, List.getElem_cons_zero, Act.put, List.setIfInBounds_toArray, List.set_cons_zero, List.set_cons_succ]
                  have hS := hSn
                  have HBc := HBn
                  have hg_0 := hgn_0
                  have hg_1 := hgn_1
                  clear hSn HBn hbn hgn_0 hgn_1
                  obtain ⟨wc, rfl⟩ : ∃ x : World, x = wn := ⟨_, rfl⟩
                  refine HT.one (i := 20) (o := _) rfl (by kernel_rfl) (by decide) (by rfl) ?_
                  intro K hK
                  go_simp
                  refine (RINT_any (x2 - x1) (by omega) (by omega) _ HT9).mono ?_
                  rintro e wn ⟨ng5, A5, n5, c5, D5, m5, d5, rfl, hH5, k5, l5, hbn⟩
                  have H5 := Lib.hid hH5
                  clear hH5
                  replace HT9 := Lib.hid (HT9.out.below hbn)
                  replace H1 := Lib.hid (H1.out.to hbn (Nat.le_refl _) hbn.size)
                  replace H4 := Lib.hid (H4.out.to hbn (Nat.le_refl _) hbn.size)
                  replace HA := Lib.hid ((hbn.block ga (blk_lt HA.out)).trans HA.out)
                  have HBn := Lib.hid (HBc.out.trans (hbn.mono HBc.out.size))
                  have hSn : wn.cell? ⟨g1, 0, none⟩ = some (.int .i64 x1) ∧ wn.cell? ⟨g1, 1, none⟩ = some (.int .i64 y1) ∧ wn.cell? ⟨g2, 0, none⟩ = some (.int .i64 x2) ∧ wn.cell? ⟨g2, 1, none⟩ = some (.int .i64 y2) := ⟨(hbn.cell (p := ⟨g1, 0, none⟩) hg_0).trans hS.1, (hbn.cell (p := ⟨g1, 1, none⟩) hg_0).trans hS.2.1, (hbn.cell (p := ⟨g2, 0, none⟩) hg_1).trans hS.2.2.1, (hbn.cell (p := ⟨g2, 1, none⟩) hg_1).trans hS.2.2.2⟩
                  have hgn_0 := Nat.lt_of_lt_of_le hg_0 hbn.size
                  have hgn_1 := Nat.lt_of_lt_of_le hg_1 hbn.size
                  refine hK.out _ _ hSn ?_
                  clear hK K hS HBc hg_0 hg_1
                  try simp only [List.getElem_toArray, List.getElem_cons_succ, List.getElem_cons_zero, Act.put, List.setIfInBounds_toArray, List.set_cons_zero, List.set_cons_succ]
                  have hS := hSn
                  have HBc := HBn
                  have hg_0 := hgn_0
                  have hg_1 := hgn_1
                  clear hSn HBn hbn hgn_0 hgn_1
                  obtain ⟨wc, rfl⟩ : ∃ x : World, x = wn := ⟨_, rfl⟩
                  refine HT.one (i := 21) (o := _) rfl (by kernel_rfl) (by decide) (by rfl) ?_
                  intro K hK
                  go_simp
                  refine (ROVER_any ng4 ng5 A4 A5 D4 D5 n4 c4 m4 d4 n5 c5 m5 d5 _ _ (by omega) (by omega) (by omega) (by omega) HNZ.out _ wc.heap.size (Nat.le_refl _) H4 H5).mono ?_
                  rintro e wn ⟨ng6, A6, n6, c6, D6, m6, d6, rfl, hH6, k6, l6, hbn⟩
                  have H6 := Lib.hid hH6
                  clear hH6
                  clear H4 H5
                  replace HT9 := Lib.hid (HT9.out.below hbn)
                  replace H1 := Lib.hid (H1.out.to hbn (Nat.le_refl _) hbn.size)
                  replace HA := Lib.hid ((hbn.block ga (blk_lt HA.out)).trans HA.out)
                  have HBn := Lib.hid (HBc.out.trans (hbn.mono HBc.out.size))
                  have hSn : wn.cell? ⟨g1, 0, none⟩ = some (.int .i64 x1) ∧ wn.cell? ⟨g1, 1, none⟩ = some (.int .i64 y1) ∧ wn.cell? ⟨g2, 0, none⟩ = some (.int .i64 x2) ∧ wn.cell? ⟨g2, 1, none⟩ = some (.int .i64 y2) := ⟨(hbn.cell (p := ⟨g1, 0, none⟩) hg_0).trans hS.1, (hbn.cell (p := ⟨g1, 1, none⟩) hg_0).trans hS.2.1, (hbn.cell (p := ⟨g2, 0, none⟩) hg_1).trans hS.2.2.1, (hbn.cell (p := ⟨g2, 1, none⟩) hg_1).trans hS.2.2.2⟩
                  have hgn_0 := Nat.lt_of_lt_of_le hg_0 hbn.size
                  have hgn_1 := Nat.lt_of_lt_of_le hg_1 hbn.size
                  refine hK.out _ _ hSn ?_
                  clear hK K hS HBc hg_0 hg_1
                  try simp only [List.getElem_toArray, List.getElem_cons_succ, List.getElem_cons_zero, Act.put, List.setIfInBounds_toArray, List.set_cons_zero, List.set_cons_succ]
                  have hS := hSn
                  have HBc := HBn
                  have hg_0 := hgn_0
                  have hg_1 := hgn_1
                  clear hSn HBn hbn hgn_0 hgn_1
                  obtain ⟨wc, rfl⟩ : ∃ x : World, x = wn := ⟨_, rfl⟩
                  refine HT.one (i := 22) (o := _) rfl (by kernel_rfl) (by decide) (by rfl) ?_
                  intro K hK
                  go_simp
                  refine (RPLUS_any ng1 ng6 A1 A6 D1 D6 n1 c1 m1 d1 n6 c6 m6 d6 _ _ (by omega) (by omega) (by omega) (by omega) _ wc.heap.size (Nat.le_refl _) H1 H6).mono ?_
                  rintro e wn ⟨ng7, A7, n7, c7, D7, m7, d7, rfl, hH7, k7, l7, hbn⟩
                  have H7 := Lib.hid hH7
                  clear hH7
                  clear H1 H6
                  replace HT9 := Lib.hid (HT9.out.below hbn)
                  replace HA := Lib.hid ((hbn.block ga (blk_lt HA.out)).trans HA.out)
                  have HBn := Lib.hid (HBc.out.trans (hbn.mono HBc.out.size))
                  have hSn : wn.cell? ⟨g1, 0, none⟩ = some (.int .i64 x1) ∧ wn.cell? ⟨g1, 1, none⟩ = some (.int .i64 y1) ∧ wn.cell? ⟨g2, 0, none⟩ = some (.int .i64 x2) ∧ wn.cell? ⟨g2, 1, none⟩ = some (.int .i64 y2) := ⟨(hbn.cell (p := ⟨g1, 0, none⟩) hg_0).trans hS.1, (hbn.cell (p := ⟨g1, 1, none⟩) hg_0).trans hS.2.1, (hbn.cell (p := ⟨g2, 0, none⟩) hg_1).trans hS.2.2.1, (hbn.cell (p := ⟨g2, 1, none⟩) hg_1).trans hS.2.2.2⟩
                  have hgn_0 := Nat.lt_of_lt_of_le hg_0 hbn.size
                  have hgn_1 := Nat.lt_of_lt_of_le hg_1 hbn.size
                  refine hK.out _ _ hSn ?_
                  clear hK K hS HBc hg_0 hg_1
                  try simp only [List.getElem_toArray, List.getElem_cons_succ, List.getElem_cons_zero, Act.put, List.setIfInBounds_toArray, List.set_cons_zero, List.set_cons_succ]
                  have hS := hSn
                  have HBc := HBn
                  have hg_0 := hgn_0
                  have hg_1 := hgn_1
                  clear hSn HBn hbn hgn_0 hgn_1
                  obtain ⟨wc, rfl⟩ : ∃ x : World, x = wn := ⟨_, rfl⟩
                  obtain ⟨hr0, hr1, hr2, hf0, hf1, hf2⟩ := three_cells HA.out
                  refine HT.done (by kernel_rfl) ?_
                  clear hS
                  simp only [List.drop_succ_cons, List.drop_zero]
                  have HAS := Lib.hid (box3_heap (v0 := .bool ng7) (v1 := .slice A7 n7 c7) (v2 := .slice D7 m7 d7) HA.out)
                  have HRS := Lib.hid (H7.out.box3 (g := ga) ⟨_, _, HA.out⟩ (by decide) (.bool ng7) (.slice A7 n7 c7) (.slice D7 m7 d7))
                  have HBS := Lib.hid (box3_below (v0 := .bool ng7) (v1 := .slice A7 n7 c7) (v2 := .slice D7 m7 d7) HBc.out HGga.out)
                  go_wp2_with fail
                  go_meet
                  exact ⟨ga, ng7, A7, n7, c7, D7, m7, d7, rfl, HAS, HRS, by omega, by omega, HBS, HGga.out⟩
                  -- H7 HA HGga HT9
              · intro K hK
                go_simp
                obtain ⟨wn, ga, hwn, hga9, hHA, hbn0, _⟩ := cell_new0 wc 64 #[.bool false, .slice none 0 0, .slice none 0 0]
                have hbn := hbn0.out
                have HGga : Hid (W.heap.size ≤ ga) := by show _ ≤ _; rw [hga9]; exact HBc.out.size
                rw [← hwn, ← hga9]
                have HA := hHA
                clear hwn hga9 hbn0 hHA
                replace HT9 := Lib.hid (HT9.out.below hbn)
                replace H1 := Lib.hid (H1.out.to hbn (Nat.le_refl _) hbn.size)
                replace H2 := Lib.hid (H2.out.to hbn (Nat.le_refl _) hbn.size)
                replace H3 := Lib.hid (H3.out.to hbn (Nat.le_refl _) hbn.size)
                have HBn := Lib.hid (HBc.out.trans (hbn.mono HBc.out.size))
                have hSn : wn.cell? ⟨g1, 0, none⟩ = some (.int .i64 x1) ∧ wn.cell? ⟨g1, 1, none⟩ = some (.int .i64 y1) ∧ wn.cell? ⟨g2, 0, none⟩ = some (.int .i64 x2) ∧ wn.cell? ⟨g2, 1, none⟩ = some (.int .i64 y2) := ⟨(hbn.cell (p := ⟨g1, 0, none⟩) hg_0).trans hS.1, (hbn.cell (p := ⟨g1, 1, none⟩) hg_0).trans hS.2.1, (hbn.cell (p := ⟨g2, 0, none⟩) hg_1).trans hS.2.2.1, (hbn.cell (p := ⟨g2, 1, none⟩) hg_1).trans hS.2.2.2⟩
                have hgn_0 := Nat.lt_of_lt_of_le hg_0 hbn.size
                have hgn_1 := Nat.lt_of_lt_of_le hg_1 hbn.size
                refine hK.out _ _ hSn ?_
                clear hK K hS HBc hg_0 hg_1
                try simp only [List.getElem_toArray, List.getElem_cons_succ, List.getElem_cons_zero, Act.put, List.setIfInBounds_toArray, List.set_cons_zero, List.set_cons_succ]
                have hS := hSn
                have HBc := HBn
                have hg_0 := hgn_0
                have hg_1 := hgn_1
                clear hSn HBn hbn hgn_0 hgn_1
                obtain ⟨wc, rfl⟩ : ∃ x : World, x = wn := ⟨_, rfl⟩
                refine HT.one (i := 14) (o := _) rfl (by kernel_rfl) (by decide) (by rfl) ?_
                intro K hK
                go_simp
                refine (RNTIMES_any ng2 ng3 A2 A3 D2 D3 n2 c2 m2 d2 n3 c3 m3 d3 _ _ (by omega) (by omega) (by omega) (by omega) _ wc.heap.size (Nat.le_refl _) H2 H3).mono ?_
                rintro e wn ⟨ng4, A4, n4, c4, D4, m4, d4, rfl, hH4, k4, l4, hbn⟩
                have H4 := Lib.hid hH4
                clear hH4
                clear H2 H3
                replace HT9 := Lib.hid (HT9.out.below hbn)
                replace H1 := Lib.hid (H1.out.to hbn (Nat.le_refl _) hbn.size)
                replace HA := Lib.hid ((hbn.block ga (blk_lt HA.out)).trans HA.out)
                have HBn := Lib.hid (HBc.out.trans (hbn.mono HBc.out.size))
                have hSn : wn.cell? ⟨g1, 0, none⟩ = some (.int .i64 x1) ∧ wn.cell? ⟨g1, 1, none⟩ = some (.int .i64 y1) ∧ wn.cell? ⟨g2, 0, none⟩ = some (.int .i64 x2) ∧ wn.cell? ⟨g2, 1, none⟩ = some (.int .i64 y2) := ⟨(hbn.cell (p := ⟨g1, 0, none⟩) hg_0).trans hS.1, (hbn.cell (p := ⟨g1, 1, none⟩) hg_0).trans hS.2.1, (hbn.cell (p := ⟨g2, 0, none⟩) hg_1).trans hS.2.2.1, (hbn.cell (p := ⟨g2, 1, none⟩) hg_1).trans hS.2.2.2⟩
                have hgn_0 := Nat.lt_of_lt_of_le hg_0 hbn.size
                have hgn_1 := Nat.lt_of_lt_of_le hg_1 hbn.size
                refine hK.out _ _ hSn ?_
                clear hK K hS HBc hg_0 hg_1
                try simp only [List.getElem_toArray, List.getElem_cons_succ, List.getElem_cons_zero, Act.put, List.setIfInBounds_toArray, List.set_cons_zero, List.set_cons_succ]
                have hS := hSn
                have HBc := HBn
                have hg_0 := hgn_0
                have hg_1 := hgn_1
                clear hSn HBn hbn hgn_0 hgn_1
                obtain ⟨wc, rfl⟩ : ∃ x : World, x = wn := ⟨_, rfl⟩
                refine HT.one (i := 20) (o := _) rfl (by kernel_rfl) (by decide) (by rfl) ?_
                intro K hK
                go_simp
                refine (RINT_any (x2 - x1) (by omega) (by omega) _ HT9).mono ?_
                rintro e wn ⟨ng5, A5, n5, c5, D5, m5, d5, rfl, hH5, k5, l5, hbn⟩
                have H5 := Lib.hid hH5
                clear hH5
                replace HT9 := Lib.hid (HT9.out.below hbn)
                replace H1 := Lib.hid (H1.out.to hbn (Nat.le_refl _) hbn.size)
                replace HA := Lib.hid ((hbn.block ga (blk_lt HA.out)).trans HA.out)
                replace H4 := Lib.hid (H4.out.to hbn (Nat.le_refl _) hbn.size)
                have HBn := Lib.hid (HBc.out.trans (hbn.mono HBc.out.size))
                have hSn : wn.cell? ⟨g1, 0, none⟩ = some (.int .i64 x1) ∧ wn.cell? ⟨g1, 1, none⟩ = some (.int .i64 y1) ∧ wn.cell? ⟨g2, 0, none⟩ = some (.int .i64 x2) ∧ wn.cell? ⟨g2, 1, none⟩ = some (.int .i64 y2) := ⟨(hbn.cell (p := ⟨g1, 0, none⟩) hg_0).trans hS.1, (hbn.cell (p := ⟨g1, 1, none⟩) hg_0).trans hS.2.1, (hbn.cell (p := ⟨g2, 0, none⟩) hg_1).trans hS.2.2.1, (hbn.cell (p := ⟨g2, 1, none⟩) hg_1).trans hS.2.2.2⟩
                have hgn_0 := Nat.lt_of_lt_of_le hg_0 hbn.size
                have hgn_1 := Nat.lt_of_lt_of_le hg_1 hbn.size
                refine hK.out _ _ hSn ?_
                clear hK K hS HBc hg_0 hg_1
                try simp only [List.getElem_toArray, List.getElem_cons_succ, List.getElem_cons_zero, Act.put, List.setIfInBounds_toArray, List.set_cons_zero, List.set_cons_succ]
                have hS := hSn
                have HBc := HBn
                have hg_0 := hgn_0
                have hg_1 := hgn_1
                clear hSn HBn hbn hgn_0 hgn_1
                obtain ⟨wc, rfl⟩ : ∃ x : World, x = wn := ⟨_, rfl⟩
                refine HT.one (i := 21) (o := _) rfl (by kernel_rfl) (by decide) (by rfl) ?_
                intro K hK
                go_simp
                refine (ROVER_any ng4 ng5 A4 A5 D4 D5 n4 c4 m4 d4 n5 c5 m5 d5 _ _ (by omega) (by omega) (by omega) (by omega) HNZ.out _ wc.heap.size (Nat.le_refl _) H4 H5).mono ?_
                rintro e wn ⟨ng6, A6, n6, c6, D6, m6, d6, rfl, hH6, k6, l6, hbn⟩
                have H6 := Lib.hid hH6
                clear hH6
                clear H4 H5
                replace HT9 := Lib.hid (HT9.out.below hbn)
                replace H1 := Lib.hid (H1.out.to hbn (Nat.le_refl _) hbn.size)
                replace HA := Lib.hid ((hbn.block ga (blk_lt HA.out)).trans HA.out)
                have HBn := Lib.hid (HBc.out.trans (hbn.mono HBc.out.size))
                have hSn : wn.cell? ⟨g1, 0, none⟩ = some (.int .i64 x1) ∧ wn.cell? ⟨g1, 1, none⟩ = some (.int .i64 y1) ∧ wn.cell? ⟨g2, 0, none⟩ = some (.int .i64 x2) ∧ wn.cell? ⟨g2, 1, none⟩ = some (.int .i64 y2) := ⟨(hbn.cell (p := ⟨g1, 0, none⟩) hg_0).trans hS.1, (hbn.cell (p := ⟨g1, 1, none⟩) hg_0).trans hS.2.1, (hbn.cell (p := ⟨g2, 0, none⟩) hg_1).trans hS.2.2.1, (hbn.cell (p := ⟨g2, 1, none⟩) hg_1).trans hS.2.2.2⟩
                have hgn_0 := Nat.lt_of_lt_of_le hg_0 hbn.size
                have hgn_1 := Nat.lt_of_lt_of_le hg_1 hbn.size
                refine hK.out _ _ hSn ?_
                clear hK K hS HBc hg_0 hg_1
                try simp only [List.getElem_toArray, List.getElem_cons_succ, List.getElem_cons_zero, Act.put, List.setIfInBounds_toArray, List.set_cons_zero, List.set_cons_succ]
                have hS := hSn
                have HBc := HBn
                have hg_0 := hgn_0
                have hg_1 := hgn_1
                clear hSn HBn hbn hgn_0 hgn_1
                obtain ⟨wc, rfl⟩ : ∃ x : World, x = wn := ⟨_, rfl⟩
                refine HT.one (i := 22) (o := _) rfl (by kernel_rfl) (by decide) (by rfl) ?_
                intro K hK
                go_simp
                refine (RPLUS_any ng1 ng6 A1 A6 D1 D6 n1 c1 m1 d1 n6 c6 m6 d6 _ _ (by omega) (by omega) (by omega) (by omega) _ wc.heap.size (Nat.le_refl _) H1 H6).mono ?_
                rintro e wn ⟨ng7, A7, n7, c7, D7, m7, d7, rfl, hH7, k7, l7, hbn⟩
                have H7 := Lib.hid hH7
                clear hH7
                clear H1 H6
                replace HT9 := Lib.hid (HT9.out.below hbn)
                replace HA := Lib.hid ((hbn.block ga (blk_lt HA.out)).trans HA.out)
                have HBn := Lib.hid (HBc.out.trans (hbn.mono HBc.out.size))
                have hSn : wn.cell? ⟨g1, 0, none⟩ = some (.int .i64 x1) ∧ wn.cell? ⟨g1, 1, none⟩ = some (.int .i64 y1) ∧ wn.cell? ⟨g2, 0, none⟩ = some (.int .i64 x2) ∧ wn.cell? ⟨g2, 1, none⟩ = some (.int .i64 y2) := ⟨(hbn.cell (p := ⟨g1, 0, none⟩) hg_0).trans hS.1, (hbn.cell (p := ⟨g1, 1, none⟩) hg_0).trans hS.2.1, (hbn.cell (p := ⟨g2, 0, none⟩) hg_1).trans hS.2.2.1, (hbn.cell (p := ⟨g2, 1, none⟩) hg_1).trans hS.2.2.2⟩
                have hgn_0 := Nat.lt_of_lt_of_le hg_0 hbn.size
                have hgn_1 := Nat.lt_of_lt_of_le hg_1 hbn.size
                refine hK.out _ _ hSn ?_
                clear hK K hS HBc hg_0 hg_1
                try simp only [List.getElem_toArray, List.getElem_cons_succ, List.getElem_cons_zero, Act.put, List.setIfInBounds_toArray, List.set_cons_zero, List.set_cons_succ]
                have hS := hSn
                have HBc := HBn
                have hg_0 := hgn_0
                have hg_1 := hgn_1
                clear hSn HBn hbn hgn_0 hgn_1
                obtain ⟨wc, rfl⟩ : ∃ x : World, x = wn := ⟨_, rfl⟩
                obtain ⟨hr0, hr1, hr2, hf0, hf1, hf2⟩ := three_cells HA.out
                refine HT.done (by kernel_rfl) ?_
                clear hS
                simp only [List.drop_succ_cons, List.drop_zero]
                have HAS := Lib.hid (box3_heap (v0 := .bool ng7) (v1 := .slice A7 n7 c7) (v2 := .slice D7 m7 d7) HA.out)
                have HRS := Lib.hid (H7.out.box3 (g := ga) ⟨_, _, HA.out⟩ (by decide) (.bool ng7) (.slice A7 n7 c7) (.slice D7 m7 d7))
                have HBS := Lib.hid (box3_below (v0 := .bool ng7) (v1 := .slice A7 n7 c7) (v2 := .slice D7 m7 d7) HBc.out HGga.out)
                go_wp2_with fail
                go_meet
                exact ⟨ga, ng7, A7, n7, c7, D7, m7, d7, rfl, HAS, HRS, by omega, by omega, HBS, HGga.out⟩
                -- H7 HA HGga HT9
            · intro K hK
              go_simp
              obtain ⟨wn, ga, hwn, hga9, hHA, hbn0, _⟩ := cell_new0 wc 64 #[.bool false, .slice none 0 0, .slice none 0 0]
              have hbn := hbn0.out
              have HGga : Hid (W.heap.size ≤ ga) := by show _ ≤ _; rw [hga9]; exact HBc.out.size
              rw [← hwn, ← hga9]
              have HA := hHA
              clear hwn hga9 hbn0 hHA
              replace HT9 := Lib.hid (HT9.out.below hbn)
              replace H1 := Lib.hid (H1.out.to hbn (Nat.le_refl _) hbn.size)
              replace H2 := Lib.hid (H2.out.to hbn (Nat.le_refl _) hbn.size)
              have HBn := Lib.hid (HBc.out.trans (hbn.mono HBc.out.size))
              have hSn : wn.cell? ⟨g1, 0, none⟩ = some (.int .i64 x1) ∧ wn.cell? ⟨g1, 1, none⟩ = some (.int .i64 y1) ∧ wn.cell? ⟨g2, 0, none⟩ = some (.int .i64 x2) ∧ wn.cell? ⟨g2, 1, none⟩ = some (.int .i64 y2) := ⟨(hbn.cell (p := ⟨g1, 0, none⟩) hg_0).trans hS.1, (hbn.cell (p := ⟨g1, 1, none⟩) hg_0).trans hS.2.1, (hbn.cell (p := ⟨g2, 0, none⟩) hg_1).trans hS.2.2.1, (hbn.cell (p := ⟨g2, 1, none⟩) hg_1).trans hS.2.2.2⟩
              have hgn_0 := Nat.lt_of_lt_of_le hg_0 hbn.size
              have hgn_1 := Nat.lt_of_lt_of_le hg_1 hbn.size
              refine hK.out _ _ hSn ?_
              clear hK K hS HBc hg_0 hg_1
              try simp only [List.getElem_toArray, List.getElem_cons_succ, List.getElem_cons_zero, Act.put, List.setIfInBounds_toArray, List.set_cons_zero, List.set_cons_succ]
              have hS := hSn
              have HBc := HBn
              have hg_0 := hgn_0
              have hg_1 := hgn_1
              clear hSn HBn hbn hgn_0 hgn_1
              obtain ⟨wc, rfl⟩ : ∃ x : World, x = wn := ⟨_, rfl⟩
              refine HT.one (i := 13) (o := _) rfl (by kernel_rfl) (by decide) (by rfl) ?_
              intro K hK
              go_simp
              refine (RINT_any (y2 - y1) (by omega) (by omega) _ HT9).mono ?_
              rintro e wn ⟨ng3, A3, n3, c3, D3, m3, d3, rfl, hH3, k3, l3, hbn⟩
              have H3 := Lib.hid hH3
              clear hH3
              replace HT9 := Lib.hid (HT9.out.below hbn)
              replace H1 := Lib.hid (H1.out.to hbn (Nat.le_refl _) hbn.size)
              replace H2 := Lib.hid (H2.out.to hbn (Nat.le_refl _) hbn.size)
              replace HA := Lib.hid ((hbn.block ga (blk_lt HA.out)).trans HA.out)
              have HBn := Lib.hid (HBc.out.trans (hbn.mono HBc.out.size))
              have hSn : wn.cell? ⟨g1, 0, none⟩ = some (.int .i64 x1) ∧ wn.cell? ⟨g1, 1, none⟩ = some (.int .i64 y1) ∧ wn.cell? ⟨g2, 0, none⟩ = some (.int .i64 x2) ∧ wn.cell? ⟨g2, 1, none⟩ = some (.int .i64 y2) := ⟨(hbn.cell (p := ⟨g1, 0, none⟩) hg_0).trans hS.1, (hbn.cell (p := ⟨g1, 1, none⟩) hg_0).trans hS.2.1, (hbn.cell (p := ⟨g2, 0, none⟩) hg_1).trans hS.2.2.1, (hbn.cell (p := ⟨g2, 1, none⟩) hg_1).trans hS.2.2.2⟩
              have hgn_0 := Nat.lt_of_lt_of_le hg_0 hbn.size
              have hgn_1 := Nat.lt_of_lt_of_le hg_1 hbn.size
              refine hK.out _ _ hSn ?_
              clear hK K hS HBc hg_0 hg_1
              try simp only [List.getElem_toArray, List.getElem_cons_succ, List.getElem_cons_zero, Act.put, List.setIfInBounds_toArray, List.set_cons_zero, List.set_cons_succ]
              have hS := hSn
              have HBc := HBn
              have hg_0 := hgn_0
              have hg_1 := hgn_1
              clear hSn HBn hbn hgn_0 hgn_1
              obtain ⟨wc, rfl⟩ : ∃ x : World, x = wn := ⟨_, rfl⟩
              refine HT.one (i := 14) (o := _) rfl (by kernel_rfl) (by decide) (by rfl) ?_
              intro K hK
              go_simp
              refine (RNTIMES_any ng2 ng3 A2 A3 D2 D3 n2 c2 m2 d2 n3 c3 m3 d3 _ _ (by omega) (by omega) (by omega) (by omega) _ wc.heap.size (Nat.le_refl _) H2 H3).mono ?_
              rintro e wn ⟨ng4, A4, n4, c4, D4, m4, d4, rfl, hH4, k4, l4, hbn⟩
              have H4 := Lib.hid hH4
              clear hH4
              clear H2 H3
              replace HT9 := Lib.hid (HT9.out.below hbn)
              replace H1 := Lib.hid (H1.out.to hbn (Nat.le_refl _) hbn.size)
              replace HA := Lib.hid ((hbn.block ga (blk_lt HA.out)).trans HA.out)
              have HBn := Lib.hid (HBc.out.trans (hbn.mono HBc.out.size))
              have hSn : wn.cell? ⟨g1, 0, none⟩ = some (.int .i64 x1) ∧ wn.cell? ⟨g1, 1, none⟩ = some (.int .i64 y1) ∧ wn.cell? ⟨g2, 0, none⟩ = some (.int .i64 x2) ∧ wn.cell? ⟨g2, 1, none⟩ = some (.int .i64 y2) := ⟨(hbn.cell (p := ⟨g1, 0, none⟩) hg_0).trans hS.1, (hbn.cell (p := ⟨g1, 1, none⟩) hg_0).trans hS.2.1, (hbn.cell (p := ⟨g2, 0, none⟩) hg_1).trans hS.2.2.1, (hbn.cell (p := ⟨g2, 1, none⟩) hg_1).trans hS.2.2.2⟩
              have hgn_0 := Nat.lt_of_lt_of_le hg_0 hbn.size
              have hgn_1 := Nat.lt_of_lt_of_le hg_1 hbn.size
              refine hK.out _ _ hSn ?_
              clear hK K hS HBc hg_0 hg_1
              try simp only [List.getElem_toArray, List.getElem_cons_succ, List.getElem_cons_zero, Act.put, List.setIfInBounds_toArray, List.set_cons_zero, List.set_cons_succ]
              have hS := hSn
              have HBc := HBn
              have hg_0 := hgn_0
              have hg_1 := hgn_1
              clear hSn HBn hbn hgn_0 hgn_1
              obtain ⟨wc, rfl⟩ : ∃ x : World, x = wn := ⟨_, rfl⟩
              refine HT.one (i := 20) (o := _) rfl (by kernel_rfl) (by decide) (by rfl) ?_
              intro K hK
              go_simp
              refine (RINT_any (x2 - x1) (by omega) (by omega) _ HT9).mono ?_
              rintro e wn ⟨ng5, A5, n5, c5, D5, m5, d5, rfl, hH5, k5, l5, hbn⟩
              have H5 := Lib.hid hH5
              clear hH5
              replace HT9 := Lib.hid (HT9.out.below hbn)
              replace H1 := Lib.hid (H1.out.to hbn (Nat.le_refl _) hbn.size)
              replace HA := Lib.hid ((hbn.block ga (blk_lt HA.out)).trans HA.out)
              replace H4 := Lib.hid (H4.out.to hbn (Nat.le_refl _) hbn.size)
              have HBn := Lib.hid (HBc.out.trans (hbn.mono HBc.out.size))
              have hSn : wn.cell? ⟨g1, 0, none⟩ = some (.int .i64 x1) ∧ wn.cell? ⟨g1, 1, none⟩ = some (.int .i64 y1) ∧ wn.cell? ⟨g2, 0, none⟩ = some (.int .i64 x2) ∧ wn.cell? ⟨g2, 1, none⟩ = some (.int .i64 y2) := ⟨(hbn.cell (p := ⟨g1, 0, none⟩) hg_0).trans hS.1, (hbn.cell (p := ⟨g1, 1, none⟩) hg_0).trans hS.2.1, (hbn.cell (p := ⟨g2, 0, none⟩) hg_1).trans hS.2.2.1, (hbn.cell (p := ⟨g2, 1, none⟩) hg_1).trans hS.2.2.2⟩
              have hgn_0 := Nat.lt_of_lt_of_le hg_0 hbn.size
              have hgn_1 := Nat.lt_of_lt_of_le hg_1 hbn.size
              refine hK.out _ _ hSn ?_
              clear hK K hS HBc hg_0 hg_1
              try simp only [List.getElem_toArray, List.getElem_cons_succ, List.getElem_cons_zero, Act.put, List.setIfInBounds_toArray, List.set_cons_zero, List.set_cons_succ]
              have hS := hSn
              have HBc := HBn
              have hg_0 := hgn_0
              have hg_1 := hgn_1
              clear hSn HBn hbn hgn_0 hgn_1
              obtain ⟨wc, rfl⟩ : ∃ x : World, x = wn := ⟨_, rfl⟩
              refine HT.one (i := 21) (o := _) rfl (by kernel_rfl) (by decide) (by rfl) ?_
              intro K hK
              go_simp
              refine (ROVER_any ng4 ng5 A4 A5 D4 D5 n4 c4 m4 d4 n5 c5 m5 d5 _ _ (by omega) (by omega) (by omega) (by omega) HNZ.out _ wc.heap.size (Nat.le_refl _) H4 H5).mono ?_
              rintro e wn ⟨ng6, A6, n6, c6, D6, m6, d6, rfl, hH6, k6, l6, hbn⟩
              have H6 := Lib.hid hH6
              clear hH6
              clear H4 H5
              replace HT9 := Lib.hid (HT9.out.below hbn)
              replace H1 := Lib.hid (H1.out.to hbn (Nat.le_refl _) hbn.size)
              replace HA := Lib.hid ((hbn.block ga (blk_lt HA.out)).trans HA.out)
              have HBn := Lib.hid (HBc.out.trans (hbn.mono HBc.out.size))
              have hSn : wn.cell? ⟨g1, 0, none⟩ = some (.int .i64 x1) ∧ wn.cell? ⟨g1, 1, none⟩ = some (.int .i64 y1) ∧ wn.cell? ⟨g2, 0, none⟩ = some (.int .i64 x2) ∧ wn.cell? ⟨g2, 1, none⟩ = some (.int .i64 y2) := ⟨(hbn.cell (p := ⟨g1, 0, none⟩) hg_0).trans hS.1, (hbn.cell (p := ⟨g1, 1, none⟩) hg_0).trans hS.2.1, (hbn.cell (p := ⟨g2, 0, none⟩) hg_1).trans hS.2.2.1, (hbn.cell (p := ⟨g2, 1, none⟩) hg_1).trans hS.2.2.2⟩
              have hgn_0 := Nat.lt_of_lt_of_le hg_0 hbn.size
              have hgn_1 := Nat.lt_of_lt_of_le hg_1 hbn.size
              refine hK.out _ _ hSn ?_
              clear hK K hS HBc hg_0 hg_1
              try simp only [List.getElem_toArray, List.getElem_cons_succ, List.getElem_cons_zero, Act.put, List.setIfInBounds_toArray, List.set_cons_zero, List.set_cons_succ]
              have hS := hSn
              have HBc := HBn
              have hg_0 := hgn_0
              have hg_1 := hgn_1
              clear hSn HBn hbn hgn_0 hgn_1
              obtain ⟨wc, rfl⟩ : ∃ x : World, x = wn := ⟨_, rfl⟩
              refine HT.one (i := 22) (o := _) rfl (by kernel_rfl) (by decide) (by rfl) ?_
              intro K hK
              go_simp
              refine (RPLUS_any ng1 ng6 A1 A6 D1 D6 n1 c1 m1 d1 n6 c6 m6 d6 _ _ (by omega) (by omega) (by omega) (by omega) _ wc.heap.size (Nat.le_refl _) H1 H6).mono ?_
              rintro e wn ⟨ng7, A7, n7, c7, D7, m7, d7, rfl, hH7, k7, l7, hbn⟩
              have H7 := Lib.hid hH7
              clear hH7
              clear H1 H6
              replace HT9 := Lib.hid (HT9.out.below hbn)
              replace HA := Lib.hid ((hbn.block ga (blk_lt HA.out)).trans HA.out)
              have HBn := Lib.hid (HBc.out.trans (hbn.mono HBc.out.size))
              have hSn : wn.cell? ⟨g1, 0, none⟩ = some (.int .i64 x1) ∧ wn.cell? ⟨g1, 1, none⟩ = some (.int .i64 y1) ∧ wn.cell? ⟨g2, 0, none⟩ = some (.int .i64 x2) ∧ wn.cell? ⟨g2, 1, none⟩ = some (.int .i64 y2) := ⟨(hbn.cell (p := ⟨g1, 0, none⟩) hg_0).trans hS.1, (hbn.cell (p := ⟨g1, 1, none⟩) hg_0).trans hS.2.1, (hbn.cell (p := ⟨g2, 0, none⟩) hg_1).trans hS.2.2.1, (hbn.cell (p := ⟨g2, 1, none⟩) hg_1).trans hS.2.2.2⟩
              have hgn_0 := Nat.lt_of_lt_of_le hg_0 hbn.size
              have hgn_1 := Nat.lt_of_lt_of_le hg_1 hbn.size
              refine hK.out _ _ hSn ?_
              clear hK K hS HBc hg_0 hg_1
              try simp only [List.getElem_toArray, List.getElem_cons_succ, List.getElem_cons_zero, Act.put, List.setIfInBounds_toArray, List.set_cons_zero, List.set_cons_succ]
              have hS := hSn
              have HBc := HBn
              have hg_0 := hgn_0
              have hg_1 := hgn_1
              clear hSn HBn hbn hgn_0 hgn_1
              obtain ⟨wc, rfl⟩ : ∃ x : World, x = wn := ⟨_, rfl⟩
              obtain ⟨hr0, hr1, hr2, hf0, hf1, hf2⟩ := three_cells HA.out
              refine HT.done (by kernel_rfl) ?_
              clear hS
              simp only [List.drop_succ_cons, List.drop_zero]
              have HAS := Lib.hid (box3_heap (v0 := .bool ng7) (v1 := .slice A7 n7 c7) (v2 := .slice D7 m7 d7) HA.out)
              have HRS := Lib.hid (H7.out.box3 (g := ga) ⟨_, _, HA.out⟩ (by decide) (.bool ng7) (.slice A7 n7 c7) (.slice D7 m7 d7))
              have HBS := Lib.hid (box3_below (v0 := .bool ng7) (v1 := .slice A7 n7 c7) (v2 := .slice D7 m7 d7) HBc.out HGga.out)
              go_wp2_with fail
              go_meet
              exact ⟨ga, ng7, A7, n7, c7, D7, m7, d7, rfl, HAS, HRS, by omega, by omega, HBS, HGga.out⟩
              -- H7 HA HGga HT9
          · intro K hK
            go_simp
            obtain ⟨wn, ga, hwn, hga9, hHA, hbn0, _⟩ := cell_new0 wc 64 #[.bool false, .slice none 0 0, .slice none 0 0]
            have hbn := hbn0.out
            have HGga : Hid (W.heap.size ≤ ga) := by show _ ≤ _; rw [hga9]; exact HBc.out.size
            rw [← hwn, ← hga9]
            have HA := hHA
            clear hwn hga9 hbn0 hHA
            replace HT9 := Lib.hid (HT9.out.below hbn)
            replace H1 := Lib.hid (H1.out.to hbn (Nat.le_refl _) hbn.size)
            have HBn := Lib.hid (HBc.out.trans (hbn.mono HBc.out.size))
            have hSn : wn.cell? ⟨g1, 0, none⟩ = some (.int .i64 x1) ∧ wn.cell? ⟨g1, 1, none⟩ = some (.int .i64 y1) ∧ wn.cell? ⟨g2, 0, none⟩ = some (.int .i64 x2) ∧ wn.cell? ⟨g2, 1, none⟩ = some (.int .i64 y2) := ⟨(hbn.cell (p := ⟨g1, 0, none⟩) hg_0).trans hS.1, (hbn.cell (p := ⟨g1, 1, none⟩) hg_0).trans hS.2.1, (hbn.cell (p := ⟨g2, 0, none⟩) hg_1).trans hS.2.2.1, (hbn.cell (p := ⟨g2, 1, none⟩) hg_1).trans hS.2.2.2⟩
            have hgn_0 := Nat.lt_of_lt_of_le hg_0 hbn.size
            have hgn_1 := Nat.lt_of_lt_of_le hg_1 hbn.size
            refine hK.out _ _ hSn ?_
            clear hK K hS HBc hg_0 hg_1
            try simp only [List.getElem_toArray, List.getElem_cons_succ, List.getElem_cons_zero, Act.put, List.setIfInBounds_toArray, List.set_cons_zero, List.set_cons_succ]
            have hS := hSn
            have HBc := HBn
            have hg_0 := hgn_0
            have hg_1 := hgn_1
            clear hSn HBn hbn hgn_0 hgn_1
            obtain ⟨wc, rfl⟩ : ∃ x : World, x = wn := ⟨_, rfl⟩
            refine HT.one (i := 7) (o := _) rfl (by kernel_rfl) (by decide) (by rfl) ?_
            intro K hK
            go_simp
            refine (RINT_any (a - x1) (by omega) (by omega) _ HT9).mono ?_
            rintro e wn ⟨ng2, A2, n2, c2, D2, m2, d2, rfl, hH2, k2, l2, hbn⟩
            have H2 := Lib.hid hH2
            clear hH2
            replace HT9 := Lib.hid (HT9.out.below hbn)
            replace H1 := Lib.hid (H1.out.to hbn (Nat.le_refl _) hbn.size)
            replace HA := Lib.hid ((hbn.block ga (blk_lt HA.out)).trans HA.out)
            have HBn := Lib.hid (HBc.out.trans (hbn.mono HBc.out.size))
            have hSn : wn.cell? ⟨g1, 0, none⟩ = some (.int .i64 x1) ∧ wn.cell? ⟨g1, 1, none⟩ = some (.int .i64 y1) ∧ wn.cell? ⟨g2, 0, none⟩ = some (.int .i64 x2) ∧ wn.cell? ⟨g2, 1, none⟩ = some (.int .i64 y2) := ⟨(hbn.cell (p := ⟨g1, 0, none⟩) hg_0).trans hS.1, (hbn.cell (p := ⟨g1, 1, none⟩) hg_0).trans hS.2.1, (hbn.cell (p := ⟨g2, 0, none⟩) hg_1).trans hS.2.2.1, (hbn.cell (p := ⟨g2, 1, none⟩) hg_1).trans hS.2.2.2⟩
            have hgn_0 := Nat.lt_of_lt_of_le hg_0 hbn.size
            have hgn_1 := Nat.lt_of_lt_of_le hg_1 hbn.size
            refine hK.out _ _ hSn ?_
            clear hK K hS HBc hg_0 hg_1
            try simp only [List.getElem_toArray, List.getElem_cons_succ, List.getElem_cons_zero, Act.put, List.setIfInBounds_toArray, List.set_cons_zero, List.set_cons_succ]
            have hS := hSn
            have HBc := HBn
            have hg_0 := hgn_0
            have hg_1 := hgn_1
            clear hSn HBn hbn hgn_0 hgn_1
            obtain ⟨wc, rfl⟩ : ∃ x : World, x = wn := ⟨_, rfl⟩
            refine HT.one (i := 13) (o := _) rfl (by kernel_rfl) (by decide) (by rfl) ?_
            intro K hK
            go_simp
            refine (RINT_any (y2 - y1) (by omega) (by omega) _ HT9).mono ?_
            rintro e wn ⟨ng3, A3, n3, c3, D3, m3, d3, rfl, hH3, k3, l3, hbn⟩
            have H3 := Lib.hid hH3
            clear hH3
            replace HT9 := Lib.hid (HT9.out.below hbn)
            replace H1 := Lib.hid (H1.out.to hbn (Nat.le_refl _) hbn.size)
            replace HA := Lib.hid ((hbn.block ga (blk_lt HA.out)).trans HA.out)
            replace H2 := Lib.hid (H2.out.to hbn (Nat.le_refl _) hbn.size)
            have HBn := Lib.hid (HBc.out.trans (hbn.mono HBc.out.size))
            have hSn : wn.cell? ⟨g1, 0, none⟩ = some (.int .i64 x1) ∧ wn.cell? ⟨g1, 1, none⟩ = some (.int .i64 y1) ∧ wn.cell? ⟨g2, 0, none⟩ = some (.int .i64 x2) ∧ wn.cell? ⟨g2, 1, none⟩ = some (.int .i64 y2) := ⟨(hbn.cell (p := ⟨g1, 0, none⟩) hg_0).trans hS.1, (hbn.cell (p := ⟨g1, 1, none⟩) hg_0).trans hS.2.1, (hbn.cell (p := ⟨g2, 0, none⟩) hg_1).trans hS.2.2.1, (hbn.cell (p := ⟨g2, 1, none⟩) hg_1).trans hS.2.2.2⟩
            have hgn_0 := Nat.lt_of_lt_of_le hg_0 hbn.size
            have hgn_1 := Nat.lt_of_lt_of_le hg_1 hbn.size
            refine hK.out _ _ hSn ?_
            clear hK K hS HBc hg_0 hg_1
            try simp only [List.getElem_toArray, List.getElem_cons_succ, List.getElem_cons_zero, Act.put, List.setIfInBounds_toArray, List.set_cons_zero, List.set_cons_succ]
            have hS := hSn
            have HBc := HBn
            have hg_0 := hgn_0
            have hg_1 := hgn_1
            clear hSn HBn hbn hgn_0 hgn_1
            obtain ⟨wc, rfl⟩ : ∃ x : World, x = wn := ⟨_, rfl⟩
            refine HT.one (i := 14) (o := _) rfl (by kernel_rfl) (by decide) (by rfl) ?_
            intro K hK
            go_simp
            refine (RNTIMES_any ng2 ng3 A2 A3 D2 D3 n2 c2 m2 d2 n3 c3 m3 d3 _ _ (by omega) (by omega) (by omega) (by omega) _ wc.heap.size (Nat.le_refl _) H2 H3).mono ?_
            rintro e wn ⟨ng4, A4, n4, c4, D4, m4, d4, rfl, hH4, k4, l4, hbn⟩
            have H4 := Lib.hid hH4
            clear hH4
            clear H2 H3
            replace HT9 := Lib.hid (HT9.out.below hbn)
            replace H1 := Lib.hid (H1.out.to hbn (Nat.le_refl _) hbn.size)
            replace HA := Lib.hid ((hbn.block ga (blk_lt HA.out)).trans HA.out)
            have HBn := Lib.hid (HBc.out.trans (hbn.mono HBc.out.size))
            have hSn : wn.cell? ⟨g1, 0, none⟩ = some (.int .i64 x1) ∧ wn.cell? ⟨g1, 1, none⟩ = some (.int .i64 y1) ∧ wn.cell? ⟨g2, 0, none⟩ = some (.int .i64 x2) ∧ wn.cell? ⟨g2, 1, none⟩ = some (.int .i64 y2) := ⟨(hbn.cell (p := ⟨g1, 0, none⟩) hg_0).trans hS.1, (hbn.cell (p := ⟨g1, 1, none⟩) hg_0).trans hS.2.1, (hbn.cell (p := ⟨g2, 0, none⟩) hg_1).trans hS.2.2.1, (hbn.cell (p := ⟨g2, 1, none⟩) hg_1).trans hS.2.2.2⟩
            have hgn_0 := Nat.lt_of_lt_of_le hg_0 hbn.size
            have hgn_1 := Nat.lt_of_lt_of_le hg_1 hbn.size
            refine hK.out _ _ hSn ?_
            clear hK K hS HBc hg_0 hg_1
            try simp only [List.getElem_toArray, List.getElem_cons_succ, List.getElem_cons_zero, Act.put, List.setIfInBounds_toArray, List.set_cons_zero, List.set_cons_succ]
            have hS := hSn
            have HBc := HBn
            have hg_0 := hgn_0
            have hg_1 := hgn_1
            clear hSn HBn hbn hgn_0 hgn_1
            obtain ⟨wc, rfl⟩ : ∃ x : World, x = wn := ⟨_, rfl⟩
            refine HT.one (i := 20) (o := _) rfl (by kernel_rfl) (by decide) (by rfl) ?_
            intro K hK
            go_simp
            refine (RINT_any (x2 - x1) (by omega) (by omega) _ HT9).mono ?_
            rintro e wn ⟨ng5, A5, n5, c5, D5, m5, d5, rfl, hH5, k5, l5, hbn⟩
            have H5 := Lib.hid hH5
            clear hH5
            replace HT9 := Lib.hid (HT9.out.below hbn)
            replace H1 := Lib.hid (H1.out.to hbn (Nat.le_refl _) hbn.size)
            replace HA := Lib.hid ((hbn.block ga (blk_lt HA.out)).trans HA.out)
            replace H4 := Lib.hid (H4.out.to hbn (Nat.le_refl _) hbn.size)
            have HBn := Lib.hid (HBc.out.trans (hbn.mono HBc.out.size))
            have hSn : wn.cell? ⟨g1, 0, none⟩ = some (.int .i64 x1) ∧ wn.cell? ⟨g1, 1, none⟩ = some (.int .i64 y1) ∧ wn.cell? ⟨g2, 0, none⟩ = some (.int .i64 x2) ∧ wn.cell? ⟨g2, 1, none⟩ = some (.int .i64 y2) := ⟨(hbn.cell (p := ⟨g1, 0, none⟩) hg_0).trans hS.1, (hbn.cell (p := ⟨g1, 1, none⟩) hg_0).trans hS.2.1, (hbn.cell (p := ⟨g2, 0, none⟩) hg_1).trans hS.2.2.1, (hbn.cell (p := ⟨g2, 1, none⟩) hg_1).trans hS.2.2.2⟩
            have hgn_0 := Nat.lt_of_lt_of_le hg_0 hbn.size
            have hgn_1 := Nat.lt_of_lt_of_le hg_1 hbn.size
            refine hK.out _ _ hSn ?_
            clear hK K hS HBc hg_0 hg_1
            try simp only [List.getElem_toArray, List.getElem_cons_succ, List.getElem_cons_zero, Act.put, List.setIfInBounds_toArray, List.set_cons_zero, List.set_cons_succ]
            have hS := hSn
            have HBc := HBn
            have hg_0 := hgn_0
            have hg_1 := hgn_1
            clear hSn HBn hbn hgn_0 hgn_1
            obtain ⟨wc, rfl⟩ : ∃ x : World, x = wn := ⟨_, rfl⟩
            refine HT.one (i := 21) (o := _) rfl (by kernel_rfl) (by decide) (by rfl) ?_
            intro K hK
            go_simp
            refine (ROVER_any ng4 ng5 A4 A5 D4 D5 n4 c4 m4 d4 n5 c5 m5 d5 _ _ (by omega) (by omega) (by omega) (by omega) HNZ.out _ wc.heap.size (Nat.le_refl _) H4 H5).mono ?_
            rintro e wn ⟨ng6, A6, n6, c6, D6, m6, d6, rfl, hH6, k6, l6, hbn⟩
            have H6 := Lib.hid hH6
            clear hH6
            clear H4 H5
            replace HT9 := Lib.hid (HT9.out.below hbn)
            replace H1 := Lib.hid (H1.out.to hbn (Nat.le_refl _) hbn.size)
            replace HA := Lib.hid ((hbn.block ga (blk_lt HA.out)).trans HA.out)
            have HBn := Lib.hid (HBc.out.trans (hbn.mono HBc.out.size))
            have hSn : wn.cell? ⟨g1, 0, none⟩ = some (.int .i64 x1) ∧ wn.cell? ⟨g1, 1, none⟩ = some (.int .i64 y1) ∧ wn.cell? ⟨g2, 0, none⟩ = some (.int .i64 x2) ∧ wn.cell? ⟨g2, 1, none⟩ = some (.int .i64 y2) := ⟨(hbn.cell (p := ⟨g1, 0, none⟩) hg_0).trans hS.1, (hbn.cell (p := ⟨g1, 1, none⟩) hg_0).trans hS.2.1, (hbn.cell (p := ⟨g2, 0, none⟩) hg_1).trans hS.2.2.1, (hbn.cell (p := ⟨g2, 1, none⟩) hg_1).trans hS.2.2.2⟩
            have hgn_0 := Nat.lt_of_lt_of_le hg_0 hbn.size
            have hgn_1 := Nat.lt_of_lt_of_le hg_1 hbn.size
            refine hK.out _ _ hSn ?_
            clear hK K hS HBc hg_0 hg_1
            try simp only [List.getElem_toArray, List.getElem_cons_succ, List.getElem_cons_zero, Act.put, List.setIfInBounds_toArray, List.set_cons_zero, List.set_cons_succ]
            have hS := hSn
            have HBc := HBn
            have hg_0 := hgn_0
            have hg_1 := hgn_1
            clear hSn HBn hbn hgn_0 hgn_1
            obtain ⟨wc, rfl⟩ : ∃ x : World, x = wn := ⟨_, rfl⟩
            refine HT.one (i := 22) (o := _) rfl (by kernel_rfl) (by decide) (by rfl) ?_
            intro K hK
            go_simp
            refine (RPLUS_any ng1 ng6 A1 A6 D1 D6 n1 c1 m1 d1 n6 c6 m6 d6 _ _ (by omega) (by omega) (by omega) (by omega) _ wc.heap.size (Nat.le_refl _) H1 H6).mono ?_
            rintro e wn ⟨ng7, A7, n7, c7, D7, m7, d7, rfl, hH7, k7, l7, hbn⟩
            have H7 := Lib.hid hH7
            clear hH7
            clear H1 H6
            replace HT9 := Lib.hid (HT9.out.below hbn)
            replace HA := Lib.hid ((hbn.block ga (blk_lt HA.out)).trans HA.out)
            have HBn := Lib.hid (HBc.out.trans (hbn.mono HBc.out.size))
            have hSn : wn.cell? ⟨g1, 0, none⟩ = some (.int .i64 x1) ∧ wn.cell? ⟨g1, 1, none⟩ = some (.int .i64 y1) ∧ wn.cell? ⟨g2, 0, none⟩ = some (.int .i64 x2) ∧ wn.cell? ⟨g2, 1, none⟩ = some (.int .i64 y2) := ⟨(hbn.cell (p := ⟨g1, 0, none⟩) hg_0).trans hS.1, (hbn.cell (p := ⟨g1, 1, none⟩) hg_0).trans hS.2.1, (hbn.cell (p := ⟨g2, 0, none⟩) hg_1).trans hS.2.2.1, (hbn.cell (p := ⟨g2, 1, none⟩) hg_1).trans hS.2.2.2⟩
            have hgn_0 := Nat.lt_of_lt_of_le hg_0 hbn.size
            have hgn_1 := Nat.lt_of_lt_of_le hg_1 hbn.size
            refine hK.out _ _ hSn ?_
            clear hK K hS HBc hg_0 hg_1
            try simp only [List.getElem_toArray, List.getElem_cons_succ, List.getElem_cons_zero, Act.put, List.setIfInBounds_toArray, List.set_cons_zero, List.set_cons_succ]
            have hS := hSn
            have HBc := HBn
            have hg_0 := hgn_0
            have hg_1 := hgn_1
            clear hSn HBn hbn hgn_0 hgn_1
            obtain ⟨wc, rfl⟩ : ∃ x : World, x = wn := ⟨_, rfl⟩
            obtain ⟨hr0, hr1, hr2, hf0, hf1, hf2⟩ := three_cells HA.out
            refine HT.done (by kernel_rfl) ?_
            clear hS
            simp only [List.drop_succ_cons, List.drop_zero]
            have HAS := Lib.hid (box3_heap (v0 := .bool ng7) (v1 := .slice A7 n7 c7) (v2 := .slice D7 m7 d7) HA.out)
            have HRS := Lib.hid (H7.out.box3 (g := ga) ⟨_, _, HA.out⟩ (by decide) (.bool ng7) (.slice A7 n7 c7) (.slice D7 m7 d7))
            have HBS := Lib.hid (box3_below (v0 := .bool ng7) (v1 := .slice A7 n7 c7) (v2 := .slice D7 m7 d7) HBc.out HGga.out)
            go_wp2_with fail
            go_meet
            exact ⟨ga, ng7, A7, n7, c7, D7, m7, d7, rfl, HAS, HRS, by omega, by omega, HBS, HGga.out⟩
            -- H7 HA HGga HT9
        · intro K hK
          go_simp
          obtain ⟨wn, ga, hwn, hga9, hHA, hbn0, _⟩ := cell_new0 wc 64 #[.bool false, .slice none 0 0, .slice none 0 0]
          have hbn := hbn0.out
          have HGga : Hid (W.heap.size ≤ ga) := by show _ ≤ _; rw [hga9]; exact HBc.out.size
          rw [← hwn, ← hga9]
          have HA := hHA
          clear hwn hga9 hbn0 hHA
          replace HT9 := Lib.hid (HT9.out.below hbn)
          have HBn := Lib.hid (HBc.out.trans (hbn.mono HBc.out.size))
          have hSn : wn.cell? ⟨g1, 0, none⟩ = some (.int .i64 x1) ∧ wn.cell? ⟨g1, 1, none⟩ = some (.int .i64 y1) ∧ wn.cell? ⟨g2, 0, none⟩ = some (.int .i64 x2) ∧ wn.cell? ⟨g2, 1, none⟩ = some (.int .i64 y2) := ⟨(hbn.cell (p := ⟨g1, 0, none⟩) hg_0).trans hS.1, (hbn.cell (p := ⟨g1, 1, none⟩) hg_0).trans hS.2.1, (hbn.cell (p := ⟨g2, 0, none⟩) hg_1).trans hS.2.2.1, (hbn.cell (p := ⟨g2, 1, none⟩) hg_1).trans hS.2.2.2⟩
          have hgn_0 := Nat.lt_of_lt_of_le hg_0 hbn.size
          have hgn_1 := Nat.lt_of_lt_of_le hg_1 hbn.size
          refine hK.out _ _ hSn ?_
          clear hK K hS HBc hg_0 hg_1
          try simp only [List.getElem_toArray, List.getElem_cons_succ, List.getElem_cons_zero, Act.put, List.setIfInBounds_toArray, List.set_cons_zero, List.set_cons_succ]
          have hS := hSn
          have HBc := HBn
          have hg_0 := hgn_0
          have hg_1 := hgn_1
          clear hSn HBn hbn hgn_0 hgn_1
          obtain ⟨wc, rfl⟩ : ∃ x : World, x = wn := ⟨_, rfl⟩
          refine HT.one (i := 2) (o := _) rfl (by kernel_rfl) (by decide) (by rfl) ?_
          intro K hK
          go_simp
          refine (RINT_any (y1) (by omega) (by omega) _ HT9).mono ?_
          rintro e wn ⟨ng1, A1, n1, c1, D1, m1, d1, rfl, hH1, k1, l1, hbn⟩
          have H1 := Lib.hid hH1
          clear hH1
          replace HT9 := Lib.hid (HT9.out.below hbn)
          replace HA := Lib.hid ((hbn.block ga (blk_lt HA.out)).trans HA.out)
          have HBn := Lib.hid (HBc.out.trans (hbn.mono HBc.out.size))
          have hSn : wn.cell? ⟨g1, 0, none⟩ = some (.int .i64 x1) ∧ wn.cell? ⟨g1, 1, none⟩ = some (.int .i64 y1) ∧ wn.cell? ⟨g2, 0, none⟩ = some (.int .i64 x2) ∧ wn.cell? ⟨g2, 1, none⟩ = some (.int .i64 y2) := ⟨(hbn.cell (p := ⟨g1, 0, none⟩) hg_0).trans hS.1, (hbn.cell (p := ⟨g1, 1, none⟩) hg_0).trans hS.2.1, (hbn.cell (p := ⟨g2, 0, none⟩) hg_1).trans hS.2.2.1, (hbn.cell (p := ⟨g2, 1, none⟩) hg_1).trans hS.2.2.2⟩
          have hgn_0 := Nat.lt_of_lt_of_le hg_0 hbn.size
          have hgn_1 := Nat.lt_of_lt_of_le hg_1 hbn.size
          refine hK.out _ _ hSn ?_
          clear hK K hS HBc hg_0 hg_1
          try simp only [List.getElem_toArray, List.getElem_cons_succ, List.getElem_cons_zero, Act.put, List.setIfInBounds_toArray, List.set_cons_zero, List.set_cons_succ]
          have hS := hSn
          have HBc := HBn
          have hg_0 := hgn_0
          have hg_1 := hgn_1
          clear hSn HBn hbn hgn_0 hgn_1
          obtain ⟨wc, rfl⟩ : ∃ x : World, x = wn := ⟨_, rfl⟩
          refine HT.one (i := 7) (o := _) rfl (by kernel_rfl) (by decide) (by rfl) ?_
          intro K hK
          go_simp
          refine (RINT_any (a - x1) (by omega) (by omega) _ HT9).mono ?_
          rintro e wn ⟨ng2, A2, n2, c2, D2, m2, d2, rfl, hH2, k2, l2, hbn⟩
          have H2 := Lib.hid hH2
          clear hH2
          replace HT9 := Lib.hid (HT9.out.below hbn)
          replace HA := Lib.hid ((hbn.block ga (blk_lt HA.out)).trans HA.out)
          replace H1 := Lib.hid (H1.out.to hbn (Nat.le_refl _) hbn.size)
          have HBn := Lib.hid (HBc.out.trans (hbn.mono HBc.out.size))
          have hSn : wn.cell? ⟨g1, 0, none⟩ = some (.int .i64 x1) ∧ wn.cell? ⟨g1, 1, none⟩ = some (.int .i64 y1) ∧ wn.cell? ⟨g2, 0, none⟩ = some (.int .i64 x2) ∧ wn.cell? ⟨g2, 1, none⟩ = some (.int .i64 y2) := ⟨(hbn.cell (p := ⟨g1, 0, none⟩) hg_0).trans hS.1, (hbn.cell (p := ⟨g1, 1, none⟩) hg_0).trans hS.2.1, (hbn.cell (p := ⟨g2, 0, none⟩) hg_1).trans hS.2.2.1, (hbn.cell (p := ⟨g2, 1, none⟩) hg_1).trans hS.2.2.2⟩
          have hgn_0 := Nat.lt_of_lt_of_le hg_0 hbn.size
          have hgn_1 := Nat.lt_of_lt_of_le hg_1 hbn.size
          refine hK.out _ _ hSn ?_
          clear hK K hS HBc hg_0 hg_1
          try simp only [List.getElem_toArray, List.getElem_cons_succ, List.getElem_cons_zero, Act.put, List.setIfInBounds_toArray, List.set_cons_zero, List.set_cons_succ]
          have hS := hSn
          have HBc := HBn
          have hg_0 := hgn_0
          have hg_1 := hgn_1
          clear hSn HBn hbn hgn_0 hgn_1
          obtain ⟨wc, rfl⟩ : ∃ x : World, x = wn := ⟨_, rfl⟩
          refine HT.one (i := 13) (o := _) rfl (by kernel_rfl) (by decide) (by rfl) ?_
          intro K hK
          go_simp
          refine (RINT_any (y2 - y1) (by omega) (by omega) _ HT9).mono ?_
          rintro e wn ⟨ng3, A3, n3, c3, D3, m3, d3, rfl, hH3, k3, l3, hbn⟩
          have H3 := Lib.hid hH3
          clear hH3
          replace HT9 := Lib.hid (HT9.out.below hbn)
          replace HA := Lib.hid ((hbn.block ga (blk_lt HA.out)).trans HA.out)
          replace H1 := Lib.hid (H1.out.to hbn (Nat.le_refl _) hbn.size)
          replace H2 := Lib.hid (H2.out.to hbn (Nat.le_refl _) hbn.size)
          have HBn := Lib.hid (HBc.out.trans (hbn.mono HBc.out.size))
          have hSn : wn.cell? ⟨g1, 0, none⟩ = some (.int .i64 x1) ∧ wn.cell? ⟨g1, 1, none⟩ = some (.int .i64 y1) ∧ wn.cell? ⟨g2, 0, none⟩ = some (.int .i64 x2) ∧ wn.cell? ⟨g2, 1, none⟩ = some (.int .i64 y2) := ⟨(hbn.cell (p := ⟨g1, 0, none⟩) hg_0).trans hS.1, (hbn.cell (p := ⟨g1, 1, none⟩) hg_0).trans hS.2.1, (hbn.cell (p := ⟨g2, 0, none⟩) hg_1).trans hS.2.2.1, (hbn.cell (p := ⟨g2, 1, none⟩) hg_1).trans hS.2.2.2⟩
          have hgn_0 := Nat.lt_of_lt_of_le hg_0 hbn.size
          have hgn_1 := Nat.lt_of_lt_of_le hg_1 hbn.size
          refine hK.out _ _ hSn ?_
          clear hK K hS HBc hg_0 hg_1
          try simp only [List.getElem_toArray, List.getElem_cons_succ, List.getElem_cons_zero, Act.put, List.setIfInBounds_toArray, List.set_cons_zero, List.set_cons_succ]
          have hS := hSn
          have HBc := HBn
          have hg_0 := hgn_0
          have hg_1 := hgn_1
          clear hSn HBn hbn hgn_0 hgn_1
          obtain ⟨wc, rfl⟩ : ∃ x : World, x = wn := ⟨_, rfl⟩
          refine HT.one (i := 14) (o := _) rfl (by kernel_rfl) (by decide) (by rfl) ?_
          intro K hK
          go_simp
          refine (RNTIMES_any ng2 ng3 A2 A3 D2 D3 n2 c2 m2 d2 n3 c3 m3 d3 _ _ (by omega) (by omega) (by omega) (by omega) _ wc.heap.size (Nat.le_refl _) H2 H3).mono ?_
          rintro e wn ⟨ng4, A4, n4, c4, D4, m4, d4, rfl, hH4, k4, l4, hbn⟩
          have H4 := Lib.hid hH4
          clear hH4
          clear H2 H3
          replace HT9 := Lib.hid (HT9.out.below hbn)
          replace HA := Lib.hid ((hbn.block ga (blk_lt HA.out)).trans HA.out)
          replace H1 := Lib.hid (H1.out.to hbn (Nat.le_refl _) hbn.size)
          have HBn := Lib.hid (HBc.out.trans (hbn.mono HBc.out.size))
          have hSn : wn.cell? ⟨g1, 0, none⟩ = some (.int .i64 x1) ∧ wn.cell? ⟨g1, 1, none⟩ = some (.int .i64 y1) ∧ wn.cell? ⟨g2, 0, none⟩ = some (.int .i64 x2) ∧ wn.cell? ⟨g2, 1, none⟩ = some (.int .i64 y2) := ⟨(hbn.cell (p := ⟨g1, 0, none⟩) hg_0).trans hS.1, (hbn.cell (p := ⟨g1, 1, none⟩) hg_0).trans hS.2.1, (hbn.cell (p := ⟨g2, 0, none⟩) hg_1).trans hS.2.2.1, (hbn.cell (p := ⟨g2, 1, none⟩) hg_1).trans hS.2.2.2⟩
          have hgn_0 := Nat.lt_of_lt_of_le hg_0 hbn.size
          have hgn_1 := Nat.lt_of_lt_of_le hg_1 hbn.size
          refine hK.out _ _ hSn ?_
          clear hK K hS HBc hg_0 hg_1
          try simp only [List.getElem_toArray, List.getElem_cons_succ, List.getElem_cons_zero, Act.put, List.setIfInBounds_toArray, List.set_cons_zero, List.set_cons_succ]
          have hS := hSn
          have HBc := HBn
          have hg_0 := hgn_0
          have hg_1 := hgn_1
          clear hSn HBn hbn hgn_0 hgn_1
          obtain ⟨wc, rfl⟩ : ∃ x : World, x = wn := ⟨_, rfl⟩
          refine HT.one (i := 20) (o := _) rfl (by kernel_rfl) (by decide) (by rfl) ?_
          intro K hK
          go_simp
          refine (RINT_any (x2 - x1) (by omega) (by omega) _ HT9).mono ?_
          rintro e wn ⟨ng5, A5, n5, c5, D5, m5, d5, rfl, hH5, k5, l5, hbn⟩
          have H5 := Lib.hid hH5
          clear hH5
          replace HT9 := Lib.hid (HT9.out.below hbn)
          replace HA := Lib.hid ((hbn.block ga (blk_lt HA.out)).trans HA.out)
          replace H1 := Lib.hid (H1.out.to hbn (Nat.le_refl _) hbn.size)
          replace H4 := Lib.hid (H4.out.to hbn (Nat.le_refl _) hbn.size)
          have HBn := Lib.hid (HBc.out.trans (hbn.mono HBc.out.size))
          have hSn : wn.cell? ⟨g1, 0, none⟩ = some (.int .i64 x1) ∧ wn.cell? ⟨g1, 1, none⟩ = some (.int .i64 y1) ∧ wn.cell? ⟨g2, 0, none⟩ = some (.int .i64 x2) ∧ wn.cell? ⟨g2, 1, none⟩ = some (.int .i64 y2) := ⟨(hbn.cell (p := ⟨g1, 0, none⟩) hg_0).trans hS.1, (hbn.cell (p := ⟨g1, 1, none⟩) hg_0).trans hS.2.1, (hbn.cell (p := ⟨g2, 0, none⟩) hg_1).trans hS.2.2.1, (hbn.cell (p := ⟨g2, 1, none⟩) hg_1).trans hS.2.2.2⟩
          have hgn_0 := Nat.lt_of_lt_of_le hg_0 hbn.size
          have hgn_1 := Nat.lt_of_lt_of_le hg_1 hbn.size
          refine hK.out _ _ hSn ?_
          clear hK K hS HBc hg_0 hg_1
          try simp only [List.getElem_toArray, List.getElem_cons_succ, List.getElem_cons_zero, Act.put, List.setIfInBounds_toArray, List.set_cons_zero, List.set_cons_succ]
          have hS := hSn
          have HBc := HBn
          have hg_0 := hgn_0
          have hg_1 := hgn_1
          clear hSn HBn hbn hgn_0 hgn_1
          obtain ⟨wc, rfl⟩ : ∃ x : World, x = wn := ⟨_, rfl⟩
          refine HT.one (i := 21) (o := _) rfl (by kernel_rfl) (by decide) (by rfl) ?_
          intro K hK
          go_simp
          refine (ROVER_any ng4 ng5 A4 A5 D4 D5 n4 c4 m4 d4 n5 c5 m5 d5 _ _ (by omega) (by omega) (by omega) (by omega) HNZ.out _ wc.heap.size (Nat.le_refl _) H4 H5).mono ?_
          rintro e wn ⟨ng6, A6, n6, c6, D6, m6, d6, rfl, hH6, k6, l6, hbn⟩
          have H6 := Lib.hid hH6
          clear hH6
          clear H4 H5
          replace HT9 := Lib.hid (HT9.out.below hbn)
          replace HA := Lib.hid ((hbn.block ga (blk_lt HA.out)).trans HA.out)
          replace H1 := Lib.hid (H1.out.to hbn (Nat.le_refl _) hbn.size)
          have HBn := Lib.hid (HBc.out.trans (hbn.mono HBc.out.size))
          have hSn : wn.cell? ⟨g1, 0, none⟩ = some (.int .i64 x1) ∧ wn.cell? ⟨g1, 1, none⟩ = some (.int .i64 y1) ∧ wn.cell? ⟨g2, 0, none⟩ = some (.int .i64 x2) ∧ wn.cell? ⟨g2, 1, none⟩ = some (.int .i64 y2) := ⟨(hbn.cell (p := ⟨g1, 0, none⟩) hg_0).trans hS.1, (hbn.cell (p := ⟨g1, 1, none⟩) hg_0).trans hS.2.1, (hbn.cell (p := ⟨g2, 0, none⟩) hg_1).trans hS.2.2.1, (hbn.cell (p := ⟨g2, 1, none⟩) hg_1).trans hS.2.2.2⟩
          have hgn_0 := Nat.lt_of_lt_of_le hg_0 hbn.size
          have hgn_1 := Nat.lt_of_lt_of_le hg_1 hbn.size
          refine hK.out _ _ hSn ?_
          clear hK K hS HBc hg_0 hg_1
          try simp only [List.getElem_toArray, List.getElem_cons_succ, List.getElem_cons_zero, Act.put, List.setIfInBounds_toArray, List.set_cons_zero, List.set_cons_succ]
          have hS := hSn
          have HBc := HBn
          have hg_0 := hgn_0
          have hg_1 := hgn_1
          clear hSn HBn hbn hgn_0 hgn_1
          obtain ⟨wc, rfl⟩ : ∃ x : World, x = wn := ⟨_, rfl⟩
          refine HT.one (i := 22) (o := _) rfl (by kernel_rfl) (by decide) (by rfl) ?_
          intro K hK
          go_simp
          refine (RPLUS_any ng1 ng6 A1 A6 D1 D6 n1 c1 m1 d1 n6 c6 m6 d6 _ _ (by omega) (by omega) (by omega) (by omega) _ wc.heap.size (Nat.le_refl _) H1 H6).mono ?_
          rintro e wn ⟨ng7, A7, n7, c7, D7, m7, d7, rfl, hH7, k7, l7, hbn⟩
          have H7 := Lib.hid hH7
          clear hH7
          clear H1 H6
          replace HT9 := Lib.hid (HT9.out.below hbn)
          replace HA := Lib.hid ((hbn.block ga (blk_lt HA.out)).trans HA.out)
          have HBn := Lib.hid (HBc.out.trans (hbn.mono HBc.out.size))
          have hSn : wn.cell? ⟨g1, 0, none⟩ = some (.int .i64 x1) ∧ wn.cell? ⟨g1, 1, none⟩ = some (.int .i64 y1) ∧ wn.cell? ⟨g2, 0, none⟩ = some (.int .i64 x2) ∧ wn.cell? ⟨g2, 1, none⟩ = some (.int .i64 y2) := ⟨(hbn.cell (p := ⟨g1, 0, none⟩) hg_0).trans hS.1, (hbn.cell (p := ⟨g1, 1, none⟩) hg_0).trans hS.2.1, (hbn.cell (p := ⟨g2, 0, none⟩) hg_1).trans hS.2.2.1, (hbn.cell (p := ⟨g2, 1, none⟩) hg_1).trans hS.2.2.2⟩
          have hgn_0 := Nat.lt_of_lt_of_le hg_0 hbn.size
          have hgn_1 := Nat.lt_of_lt_of_le hg_1 hbn.size
          refine hK.out _ _ hSn ?_
          clear hK K hS HBc hg_0 hg_1
          try simp only [List.getElem_toArray, List.getElem_cons_succ, List.getElem_cons_zero, Act.put, List.setIfInBounds_toArray, List.set_cons_zero, List.set_cons_succ]
          have hS := hSn
          have HBc := HBn
          have hg_0 := hgn_0
          have hg_1 := hgn_1
          clear hSn HBn hbn hgn_0 hgn_1
          obtain ⟨wc, rfl⟩ : ∃ x : World, x = wn := ⟨_, rfl⟩
          obtain ⟨hr0, hr1, hr2, hf0, hf1, hf2⟩ := three_cells HA.out
          refine HT.done (by kernel_rfl) ?_
          clear hS
          simp only [List.drop_succ_cons, List.drop_zero]
          have HAS := Lib.hid (box3_heap (v0 := .bool ng7) (v1 := .slice A7 n7 c7) (v2 := .slice D7 m7 d7) HA.out)
          have HRS := Lib.hid (H7.out.box3 (g := ga) ⟨_, _, HA.out⟩ (by decide) (.bool ng7) (.slice A7 n7 c7) (.slice D7 m7 d7))
          have HBS := Lib.hid (box3_below (v0 := .bool ng7) (v1 := .slice A7 n7 c7) (v2 := .slice D7 m7 d7) HBc.out HGga.out)
          go_wp2_with fail
          go_meet
          exact ⟨ga, ng7, A7, n7, c7, D7, m7, d7, rfl, HAS, HRS, by omega, by omega, HBS, HGga.out⟩
          -- H7 HA HGga HT9
      case rest =>
      obtain ⟨ga, ng, A9, n9, c9, D9, m9, d9, rfl, HA, H5, hn9, hm9, HBX, hga⟩ := hcut
      obtain ⟨z0, z1, z2, _, _, _⟩ := three_cells HA.out
      have hga9 := blk_lt HA.out
      have HBA := Lib.hid (HBA0.out.trans (HBX.out.mono HBA0.out.size))
      have HWAY : Hid (okWay way = true) := HWa.out
      obtain ⟨q, hq⟩ : ∃ q, lineQ (x1, y1) (x2, y2) a = q := ⟨_, rfl⟩
      rw [hq, pos_rnd] at HV
      rw [hq] at H5
      clear hq b10 b11 b20 b21 HP1 HP2
      go_wp2_with (fail)
      refine (RROUND_any ng A9 D9 n9 c9 m9 d9 q way 10000000000000 (by omega) HWAY.out (by omega) (by omega) _ (Lib.hid (HTB.out.below HBX.out)) wc.heap.size (Nat.le_refl _) H5).mono ?_
      rintro e w6 ⟨rfl, hb6⟩
      have HB6 := Lib.hid (HBA.out.trans (hb6.mono HBA.out.size))
      clear hb6
      obtain ⟨⟨z, b⟩, hz⟩ : ∃ p, rndR q way 10000000000000 = p := ⟨_, rfl⟩
      rw [hz] at HV ⊢
      clear hz
      dsimp only at HV ⊢
      cases b with
      | true =>
        rw [if_pos rfl] at HV
        go_wp2_with (fail)
        go_ret2
        exact ⟨by rw [HV.out]; rfl, HB6.out⟩
      | false =>
        rw [if_neg (by simp)] at HV
        go_wp2_with (fail)
        go_ret2
        exact ⟨by rw [HV.out]; rfl, HB6.out⟩
end Go.Proofs.YthjmhdnamhifjaaGreatDoor
