/- Outward, of both sides. -/
import Derived.Test.YtpfjodggnfgnnaaDoorMov
set_option linter.unusedSimpArgs false
set_option linter.unusedVariables false
namespace Go.Proofs.YtpfjodggnfgnnaaDoor
open Go.RowKit Go.Dw
/-- Append: one span more, which may grow into the last one -/
def appS (acc : List Pr) (p : Pr) : List Pr := if 0 < acc.length ∧ p.1 ≤ (prOf acc (acc.length - 1)).2 then acc.set (acc.length - 1) ((prOf acc (acc.length - 1)).1, max (prOf acc (acc.length - 1)).2 p.2) else acc ++ [p]
theorem appS_len (acc : List Pr) (p : Pr) : (appS acc p).length ≤ acc.length + 1 := by
  unfold appS
  split
  · rw [List.length_set]; omega
  · simp
theorem appS_set {acc : List Pr} {m : Nat} {x y z1 z2 : Int} (hl : acc.length = m + 1) (hz : prOf acc m = (z1, z2)) (h : x ≤ z2) : appS acc (x, y) = acc.set m ((prOf acc m).1, max z2 y) := by
  unfold appS
  rw [hl, show m + 1 - 1 = m by omega, if_pos ⟨by omega, by rw [hz]; exact h⟩, hz]
theorem appS_new {acc : List Pr} {x y : Int} (h : ∀ m, acc.length = m + 1 → ¬ x ≤ (prOf acc m).2) : appS acc (x, y) = acc ++ [(x, y)] := by
  unfold appS
  rw [if_neg]
  rintro ⟨h1, h2⟩
  exact h (acc.length - 1) (by omega) h2
set_option maxRecDepth 100000 in
set_option maxHeartbeats 8000000 in
theorem SAPPEND_own (A : Option Addr) (n c : Nat) (acc : List Pr) (x y : Int) (w : World) (base : Nat) (hb : base ≤ w.heap.size) (hn : n ≤ 1000000) (ho : Hid (OwnPrs 29 w base (.slice A n c) acc)) :
    Calls Tryd.prog 71 #[.slice A n c, .agg #[.int .i64 x, .int .i64 y]] w fun e w' => ∃ v, e = .returned v ∧ OwnPrs 29 w' base v (appS acc (x, y)) ∧ Below base w w' := by
  obtain ⟨W, gx, hW, hgx, HHW, HBW0, HSW⟩ := cell_new0 w 29 #[.int .i64 x, .int .i64 y]
  have HBW := Lib.hid (HBW0.out.mono hb)
  have HOW := Lib.hid (ho.out.below HBW0.out)
  obtain ⟨b0, b1, _, _⟩ := pr_cells HHW.out
  have HC := Lib.hid (And.intro b0 b1)
  have hgw := blk_lt HHW.out
  have hlen : n = acc.length := by
    obtain ⟨A', c', e, _, _⟩ := HOW.out.len
    injection e
  have HGX := Lib.hid hgx
  go_enter Tryd.func71, Tryd.ntmps71
  go_upto_region 1 with (fail)
  rw [← hW, ← hgx]
  clear hW hgx
  rcases Nat.eq_zero_or_pos n with h0 | hpos
  · have HV : Hid (appS acc (x, y) = acc ++ [(x, y)]) := appS_new (fun m hm => by omega)
    subst h0
    clear hlen
    go_wp2_with (fail)
    go_quiet (fail)
    obtain ⟨X, hX⟩ : ∃ X : World, X = W.drewN nq := ⟨_, rfl⟩
    rw [← hX]
    have hx0 : X.cell? ⟨gx, 0, none⟩ = some (.int .i64 x) := by rw [hX]; exact HC.out.1
    have hx1 : X.cell? ⟨gx, 1, none⟩ = some (.int .i64 y) := by rw [hX]; exact HC.out.2
    have HOX : Hid (OwnPrs 29 X base (.slice A (0) c) acc) := by show OwnPrs _ _ _ _ _; rw [hX]; exact HOW.out.below (belowN (Below.refl _ W) nq)
    have HBX : Hid (Below base w X) := by show Below _ _ _; rw [hX]; exact belowN HBW.out nq
    have hsx := HBX.out.size
    have hbx : base ≤ X.heap.size := Nat.le_trans hb hsx
    clear hX
    go_wp2_with (with_reducible refine wpList_push_span rfl (.tmp 34) (.tmp 36) rfl base A 0 c acc x y X.heap.size rfl rfl rfl HOX.out (by omega) hbx ?_; intro g5 cap5 w5 hown5 hb5)
    go_ret
    exact ⟨_, rfl, by rw [HV.out]; exact hown5, HBX.out.trans hb5⟩
  · obtain ⟨m, rfl⟩ : ∃ m, n = m + 1 := ⟨n - 1, by omega⟩
    obtain ⟨g, cap, hv, hg1, hg2, _, _, hcl⟩ := HOW.out.slot (by omega)
    injection hv with e1 e2 e3
    subst e1 e3
    obtain ⟨⟨s1, s2⟩, f1, f2⟩ := hcl m (by omega)
    obtain ⟨z, hz⟩ : ∃ z, prOf acc m = z := ⟨_, rfl⟩
    obtain ⟨z1, z2⟩ := z
    have HZ := Lib.hid hz
    rw [hz] at s1 s2
    dsimp only at s1 s2
    have hm0 : (0 : Int) ≤ (m : Int) := by omega
    have hmn : (m : Int) < (m : Int) + 1 := by omega
    have hmw : IntKind.i64.wrap (m : Int) = (m : Int) := IntWalk.i64_in _ (by omega)
    have HL := Lib.hid hlen.symm
    have hm9 : m + 1 ≤ 1000000 := hn
    clear hcl hz hlen e2
    by_cases hle : x ≤ z2
    · have HV := Lib.hid (appS_set (y := y) HL.out HZ.out hle)
      go_wp2_with (fail)
      go_quiet (fail)
      obtain ⟨X, hX⟩ : ∃ X : World, X = W.drewN nq := ⟨_, rfl⟩
      rw [← hX]
      have HX1 : Hid (X.cell? ⟨g, m * 2 + 1, none⟩ = some (.int .i64 z2) ∧ X.cell? ⟨gx, 1, none⟩ = some (.int .i64 y)) := by show _ ∧ _; rw [hX]; exact ⟨s2, HC.out.2⟩
      have hfX : X.frozen? ⟨g, m * 2 + 1, none⟩ = false := by rw [hX]; exact f2
      have HOX : Hid (OwnPrs 29 X base (.slice (some ⟨g, 0, none⟩) (m + 1) c) acc) := by show OwnPrs _ _ _ _ _; rw [hX]; exact HOW.out.below (belowN (Below.refl _ W) nq)
      have HBX : Hid (Below base w X) := by show Below _ _ _; rw [hX]; exact belowN HBW.out nq
      have HGB := Lib.hid hg1
      clear hX s1 s2 f1 f2 b0 b1
      go_upto_region 3 with (fail)
      refine wp_region_text 10 (fun x9 => x9.cell? ⟨g, m * 2 + 1, none⟩ = some (.int .i64 z2) ∧ x9.cell? ⟨gx, 1, none⟩ = some (.int .i64 y)) (by kernel_rfl) (by kernel_rfl) ?_
      obtain ⟨Y, hY⟩ : ∃ Y : World, Y = X.drew := ⟨_, rfl⟩
      rw [← hY]
      have hS : Y.cell? ⟨g, m * 2 + 1, none⟩ = some (.int .i64 z2) ∧ Y.cell? ⟨gx, 1, none⟩ = some (.int .i64 y) := by rw [hY]; exact HX1.out
      have hfY : Y.frozen? ⟨g, m * 2 + 1, none⟩ = false := by rw [hY]; exact hfX
      have hcY := hS.1
      have HOY : Hid (OwnPrs 29 Y base (.slice (some ⟨g, 0, none⟩) (m + 1) c) acc) := by show OwnPrs _ _ _ _ _; rw [hY]; exact HOX.out.below ((Below.refl _ X).drew)
      have HBY : Hid (Below base w Y) := by show Below _ _ _; rw [hY]; exact HBX.out.drew
      clear hY hfX
      refine HT.take (i := 0) (oi := _) (v := ?_) rfl (by kernel_rfl) (by kernel_rfl) (by decide) (fun _ _ _ h => h) (Or.inl ⟨by rfl, ?_⟩) hS ?_
      rotate_left
      · intro wz
        go_simp
        try with_reducible rfl
      simp only [List.getElem_toArray, List.getElem_cons_succ, List.getElem_cons_zero, Act.put, List.setIfInBounds_toArray, List.set_cons_zero, List.set_cons_succ]
      refine HT.take (i := 1) (oi := _) (v := ?_) rfl (by kernel_rfl) (by kernel_rfl) (by decide) (fun _ _ _ h => h) (Or.inl ⟨by rfl, ?_⟩) hS ?_
      rotate_left
      · intro wz
        go_simp
        try with_reducible rfl
      simp only [List.getElem_toArray, List.getElem_cons_succ, List.getElem_cons_zero, Act.put, List.setIfInBounds_toArray, List.set_cons_zero, List.set_cons_succ]
      refine HT.take (i := 2) (oi := _) (v := ?_) rfl (by kernel_rfl) (by kernel_rfl) (by decide) (fun _ _ _ h => h) (Or.inl ⟨by rfl, ?_⟩) hS ?_
      rotate_left
      · intro wz
        go_simp
        try with_reducible rfl
      simp only [List.getElem_toArray, List.getElem_cons_succ, List.getElem_cons_zero, Act.put, List.setIfInBounds_toArray, List.set_cons_zero, List.set_cons_succ]
      refine HT.take (i := 3) (oi := _) (v := ?_) rfl (by kernel_rfl) (by kernel_rfl) (by decide) (fun _ _ _ h => h) (Or.inl ⟨by rfl, ?_⟩) hS ?_
      rotate_left
      · intro wz
        go_simp
        try with_reducible rfl
      simp only [List.getElem_toArray, List.getElem_cons_succ, List.getElem_cons_zero, Act.put, List.setIfInBounds_toArray, List.set_cons_zero, List.set_cons_succ]
      refine HT.take (i := 4) (oi := _) (v := ?_) rfl (by kernel_rfl) (by kernel_rfl) (by decide) (fun _ _ _ h => h) (Or.inl ⟨by rfl, ?_⟩) hS ?_
      rotate_left
      · intro wz
        go_simp
        try with_reducible rfl
      simp only [List.getElem_toArray, List.getElem_cons_succ, List.getElem_cons_zero, Act.put, List.setIfInBounds_toArray, List.set_cons_zero, List.set_cons_succ]
      refine HT.take (i := 5) (oi := _) (v := ?_) rfl (by kernel_rfl) (by kernel_rfl) (by decide) (fun _ _ _ h => h) (Or.inl ⟨by rfl, ?_⟩) hS ?_
      rotate_left
      · intro wz
        go_simp
        try with_reducible rfl
      simp only [List.getElem_toArray, List.getElem_cons_succ, List.getElem_cons_zero, Act.put, List.setIfInBounds_toArray, List.set_cons_zero, List.set_cons_succ]
      refine HT.load (i := 6) (oi := _) (v := ?_) rfl (by kernel_rfl) (by kernel_rfl) (by decide) (fun _ _ _ h => h) (by kernel_rfl) (Or.inl ⟨by rfl, ?_⟩) hS ?_
      rotate_left
      · intro wz hwz
        try dsimp only at hwz
        go_simp
        try with_reducible rfl
      simp only [List.getElem_toArray, List.getElem_cons_succ, List.getElem_cons_zero, Act.put, List.setIfInBounds_toArray, List.set_cons_zero, List.set_cons_succ]
      refine HT.take (i := 7) (oi := _) (v := ?_) rfl (by kernel_rfl) (by kernel_rfl) (by decide) (fun _ _ _ h => h) (Or.inl ⟨by rfl, ?_⟩) hS ?_
      rotate_left
      · intro wz
        go_simp
        try with_reducible rfl
      simp only [List.getElem_toArray, List.getElem_cons_succ, List.getElem_cons_zero, Act.put, List.setIfInBounds_toArray, List.set_cons_zero, List.set_cons_succ]
      refine HT.load (i := 8) (oi := _) (v := ?_) rfl (by kernel_rfl) (by kernel_rfl) (by decide) (fun _ _ _ h => h) (by kernel_rfl) (Or.inl ⟨by rfl, ?_⟩) hS ?_
      rotate_left
      · intro wz hwz
        try dsimp only at hwz
        go_simp
        try with_reducible rfl
      simp only [List.getElem_toArray, List.getElem_cons_succ, List.getElem_cons_zero, Act.put, List.setIfInBounds_toArray, List.set_cons_zero, List.set_cons_succ]
      refine HT.take (i := 9) (oi := _) (v := ?_) rfl (by kernel_rfl) (by kernel_rfl) (by decide) (fun _ _ _ h => h) (Or.inl ⟨by rfl, ?_⟩) hS ?_
      rotate_left
      · intro wz
        go_simp
        try with_reducible rfl
      simp only [List.getElem_toArray, List.getElem_cons_succ, List.getElem_cons_zero, Act.put, List.setIfInBounds_toArray, List.set_cons_zero, List.set_cons_succ]
      refine HT.done (by kernel_rfl) ?_
      clear hS
      simp only [List.drop_succ_cons, List.drop_zero]
      have HO9 := Lib.hid (HOY.out.set1 (k := m) (by rw [HL.out]; omega) (max z2 y))
      rw [← HV.out] at HO9
      have HB9 := Lib.hid (HBY.out.setCell (p := ⟨g, m * 2 + 1, none⟩) HGB.out (.int .i64 (max z2 y)))
      go_wp2_with (fail)
      all_goals
        go_ret
        first
          | exact ⟨_, rfl, HO9.out, HB9.out⟩
          | (have e9 : max z2 y = y := by omega
             rw [e9] at HO9 HB9
             exact ⟨_, rfl, HO9.out, HB9.out⟩)
          | (have e9 : max z2 y = z2 := by omega
             rw [e9] at HO9 HB9
             exact ⟨_, rfl, HO9.out, HB9.out⟩)
    · have hlf : decide (x ≤ z2) = false := decide_eq_false hle
      have HV : Hid (appS acc (x, y) = acc ++ [(x, y)]) := appS_new (fun m' hm' => by
        obtain rfl : m' = m := by have := HL.out; omega
        rw [HZ.out]; exact hle)
      clear hle
      go_wp2_with (fail)
      go_quiet (fail)
      obtain ⟨A, hA⟩ : ∃ A : Option Addr, A = some ⟨g, 0, none⟩ := ⟨_, rfl⟩
      rw [← hA] at HOW
      rw [← hA]
      clear s1 s2 f1 f2 hA
      obtain ⟨X, hX⟩ : ∃ X : World, X = W.drewN nq := ⟨_, rfl⟩
      rw [← hX]
      have hx0 : X.cell? ⟨gx, 0, none⟩ = some (.int .i64 x) := by rw [hX]; exact HC.out.1
      have hx1 : X.cell? ⟨gx, 1, none⟩ = some (.int .i64 y) := by rw [hX]; exact HC.out.2
      have HOX : Hid (OwnPrs 29 X base (.slice A (m + 1) c) acc) := by show OwnPrs _ _ _ _ _; rw [hX]; exact HOW.out.below (belowN (Below.refl _ W) nq)
      have HBX : Hid (Below base w X) := by show Below _ _ _; rw [hX]; exact belowN HBW.out nq
      have hsx := HBX.out.size
      have hbx : base ≤ X.heap.size := Nat.le_trans hb hsx
      clear hX
      go_wp2_with (with_reducible refine wpList_push_span rfl (.tmp 34) (.tmp 36) rfl base A (m + 1) c acc x y X.heap.size rfl rfl rfl HOX.out (by omega) hbx ?_; intro g5 cap5 w5 hown5 hb5)
      go_ret
      exact ⟨_, rfl, by rw [HV.out]; exact hown5, HBX.out.trans hb5⟩
end Go.Proofs.YtpfjodggnfgnnaaDoor
