/- Silences, of the sound: what its function value says. -/
import Derived.Test.YtnhmhjhfoonakaaSrw
import Derived.Test.YtnhmhjhfoonakaaWb
import Derived.Test.YtnhmhjhfoonakaaWf
import Derived.Test.YtnhmhjhfoonakaaWc
import Derived.Deep.QuietTactic
import Derived.BigQuiet
set_option linter.unusedSimpArgs false
set_option linter.unusedVariables false
namespace Go.Proofs.Ytnhmhjhfoonakaa
open Go.RowKit Go.Dw
theorem cells_two {w : World} {g : Nat} {v0 v1 : Value} {T : TypeId} (h : w.heap[g]? = some (.cells #[v0, v1] T (0, 0))) : w.cell? ⟨g, 0, none⟩ = some v0 ∧ w.cell? ⟨g, 1, none⟩ = some v1 := by
  refine ⟨?_, ?_⟩
  · rw [own_cell1 h 0]; rfl
  · rw [own_cell1 h 1]; rfl
theorem quiet_no {xss : List (List Int)} {level : Int} {i k : Nat} (hk : k < xss.length) (h : ¬ max (elOf (rowOf xss k) i) (-(elOf (rowOf xss k) i)) ≤ level) : quietB xss level i = false := by
  unfold quietB
  rw [List.all_eq_false]
  exact ⟨rowOf xss k, by simp [rowOf, List.getD, List.getElem?_eq_getElem hk], by simpa using h⟩
theorem quiet_yes {xss : List (List Int)} {level : Int} {i : Nat} (h : ∀ k, k < xss.length → max (elOf (rowOf xss k) i) (-(elOf (rowOf xss k) i)) ≤ level) : quietB xss level i = true := by
  unfold quietB
  rw [List.all_eq_true]
  intro l hl
  obtain ⟨k, hk, rfl⟩ := List.getElem_of_mem hl
  have := h k hk
  simpa [rowOf, List.getD, List.getElem?_eq_getElem hk] using this
set_option maxRecDepth 100000 in
set_option maxHeartbeats 2000000 in
theorem SILENCES1_any (r : Int) (ad : Addr) (n c : Nat) (xss : List (List Int)) (level : Int) (hok : Hid (OkS r xss)) (i : Nat) (hi : i < len0 xss) (gx gl : Nat) (w : World) (B : Nat) (hB : B ≤ w.heap.size)
    (hs : Hid (w.heap[gx]? = some (.cells #[.int .i64 r, .slice (some ad) n c] 24 (0, 0)))) (hh : Hid (RowsAt w B (some ad) n xss)) (hv : Hid (w.heap[gl]? = some (.cells #[.int .i64 level] 3 (0, 0)))) :
    Calls Try.prog 33 #[.int .i64 (i : Int), .pointer (some ⟨gx, 0, none⟩), .pointer (some ⟨gl, 0, none⟩)] w fun e w' => e = .returned (.bool (quietB xss level i)) ∧ Below w.heap.size w w' := by
  have hl := Lib.hid hh.out.1
  have hn16 : n ≤ 16 := by have := hok.out.few; have := hl.out; omega
  have hn0 : 0 < n := by have := hok.out.some; have := hl.out; omega
  have hm := hok.out.long
  obtain ⟨x0, x1⟩ := cells_two hs.out
  have v0 := own_cell1 hv.out 0
  simp at v0
  have hi0 : (0 : Int) ≤ (i : Int) := by omega
  have hin : (i : Int) < (len0 xss : Int) := by omega
  go_enter Try.func33, Try.ntmps33
  go_wp2_with fail
  go_loopw [10] (fun s wr => ∃ k : Nat, k ≤ n ∧ s = .int .i64 k ∧ Hid (∀ a, a < k → max (elOf (rowOf xss a) i) (-(elOf (rowOf xss a) i)) ≤ level) ∧ Hid (Below w.heap.size w wr)) (fun s _ => n - (intOf s).toNat)
  case atStart => exact ⟨0, Nat.zero_le _, rfl, fun a ha => by omega, Below.refl _ _⟩
  case round =>
    obtain ⟨k, hk, rfl, hq, hb⟩ := hrel
    by_cases hlt : k < n
    · have hkx : Hid (k < xss.length) := by show _ < _; have := hl.out; omega
      obtain ⟨A', n', c', hadB, hcell, hn', hc', hi'⟩ := (hh.out.below hb.out hB).row hlt
      obtain rfl : n' = len0 xss := hi'.1.symm.trans (hok.out.row hkx.out).1
      obtain ⟨ad', rfl⟩ := hi'.addr (by omega)
      have hcell2 := (hi'.at_ hi).2
      have hblk := (hi'.at_ hi).1
      obtain ⟨y1, y2⟩ := hok.out.el hkx.out hi
      obtain ⟨y, hy⟩ : ∃ y, elOf (rowOf xss k) i = y := ⟨_, rfl⟩
      have HY := Lib.hid hy
      rw [hy] at hcell2 y1 y2
      have hv0 : wr.cell? ⟨gl, 0, none⟩ = some (.int .i64 level) := (hb.out.cell (p := ⟨gl, 0, none⟩) (blk_lt hv.out)).trans v0
      clear hy hi'
      unfold maxLen at hc'
      have hk0 : (0 : Int) ≤ (k : Int) := by omega
      have hkn : (k : Int) < (n : Int) := by omega
      go_wp2_with fail
      refine wp_region_text 12 (fun x9 => x9.cell? (ad'.add i) = some (.int .i64 y) ∧ x9.cell? ⟨gl, 0, none⟩ = some (.int .i64 level)) (by kernel_rfl) (by kernel_rfl) ?_
      have hS : wr.drew.cell? (ad'.add i) = some (.int .i64 y) ∧ wr.drew.cell? ⟨gl, 0, none⟩ = some (.int .i64 level) := ⟨hcell2, hv0⟩
      refine HT.take (i := 0) (oi := _) (v := ?_) rfl (by kernel_rfl) (by kernel_rfl) (by decide) (fun _ _ _ h => h) (Or.inl ⟨by rfl, ?_⟩) hS ?_
      rotate_left
      · intro wz
        go_simp
        try with_reducible rfl
      simp only [List.getElem_toArray, List.getElem_cons_succ, List.getElem_cons_zero, Act.put, List.setIfInBounds_toArray, List.set_cons_zero, List.set_cons_succ]
      refine HT.take (i := 1) (oi := _) (v := ?_) rfl (by kernel_rfl) (by kernel_rfl) (by decide) (fun _ _ _ h => h) (Or.inl ⟨by rfl, ?_⟩) hS ?_
      rotate_left
      · intro wz
        go_simp
        try with_reducible rfl
      simp only [List.getElem_toArray, List.getElem_cons_succ, List.getElem_cons_zero, Act.put, List.setIfInBounds_toArray, List.set_cons_zero, List.set_cons_succ]
      refine HT.take (i := 2) (oi := _) (v := ?_) rfl (by kernel_rfl) (by kernel_rfl) (by decide) (fun _ _ _ h => h) (Or.inl ⟨by rfl, ?_⟩) hS ?_
      rotate_left
      · intro wz
        go_simp
        try with_reducible rfl
      simp only [List.getElem_toArray, List.getElem_cons_succ, List.getElem_cons_zero, Act.put, List.setIfInBounds_toArray, List.set_cons_zero, List.set_cons_succ]
      refine HT.load (i := 3) (oi := _) (v := ?_) rfl (by kernel_rfl) (by kernel_rfl) (by decide) (fun _ _ _ h => h) (by kernel_rfl) (Or.inl ⟨by rfl, ?_⟩) hS ?_
      rotate_left
      · intro wz hwz
        try dsimp only at hwz
        go_simp
        try with_reducible rfl
      simp only [List.getElem_toArray, List.getElem_cons_succ, List.getElem_cons_zero, Act.put, List.setIfInBounds_toArray, List.set_cons_zero, List.set_cons_succ]
      refine HT.take (i := 4) (oi := _) (v := ?_) rfl (by kernel_rfl) (by kernel_rfl) (by decide) (fun _ _ _ h => h) (Or.inl ⟨by rfl, ?_⟩) hS ?_
      rotate_left
      · intro wz
        go_simp
        try with_reducible rfl
      simp only [List.getElem_toArray, List.getElem_cons_succ, List.getElem_cons_zero, Act.put, List.setIfInBounds_toArray, List.set_cons_zero, List.set_cons_succ]
      refine HT.take (i := 5) (oi := _) (v := ?_) rfl (by kernel_rfl) (by kernel_rfl) (by decide) (fun _ _ _ h => h) (Or.inl ⟨by rfl, ?_⟩) hS ?_
      rotate_left
      · intro wz
        go_simp
        try with_reducible rfl
      simp only [List.getElem_toArray, List.getElem_cons_succ, List.getElem_cons_zero, Act.put, List.setIfInBounds_toArray, List.set_cons_zero, List.set_cons_succ]
      refine HT.take (i := 6) (oi := _) (v := ?_) rfl (by kernel_rfl) (by kernel_rfl) (by decide) (fun _ _ _ h => h) (Or.inl ⟨by rfl, ?_⟩) hS ?_
      rotate_left
      · intro wz
        go_simp
        try with_reducible rfl
      simp only [List.getElem_toArray, List.getElem_cons_succ, List.getElem_cons_zero, Act.put, List.setIfInBounds_toArray, List.set_cons_zero, List.set_cons_succ]
      refine HT.load (i := 7) (oi := _) (v := ?_) rfl (by kernel_rfl) (by kernel_rfl) (by decide) (fun _ _ _ h => h) (by kernel_rfl) (Or.inl ⟨by rfl, ?_⟩) hS ?_
      rotate_left
      · intro wz hwz
        try dsimp only at hwz
        go_simp
        try with_reducible rfl
      simp only [List.getElem_toArray, List.getElem_cons_succ, List.getElem_cons_zero, Act.put, List.setIfInBounds_toArray, List.set_cons_zero, List.set_cons_succ]
      refine HT.take (i := 8) (oi := _) (v := ?_) rfl (by kernel_rfl) (by kernel_rfl) (by decide) (fun _ _ _ h => h) (Or.inl ⟨by rfl, ?_⟩) hS ?_
      rotate_left
      · intro wz
        go_simp
        try with_reducible rfl
      simp only [List.getElem_toArray, List.getElem_cons_succ, List.getElem_cons_zero, Act.put, List.setIfInBounds_toArray, List.set_cons_zero, List.set_cons_succ]
      refine HT.take (i := 9) (oi := _) (v := ?_) rfl (by kernel_rfl) (by kernel_rfl) (by decide) (fun _ _ _ h => h) (Or.inl ⟨by rfl, ?_⟩) hS ?_
      rotate_left
      · intro wz
        go_simp
        try with_reducible rfl
      simp only [List.getElem_toArray, List.getElem_cons_succ, List.getElem_cons_zero, Act.put, List.setIfInBounds_toArray, List.set_cons_zero, List.set_cons_succ]
      refine HT.load (i := 10) (oi := _) (v := ?_) rfl (by kernel_rfl) (by kernel_rfl) (by decide) (fun _ _ _ h => h) (by kernel_rfl) (Or.inl ⟨by rfl, ?_⟩) hS ?_
      rotate_left
      · intro wz hwz
        try dsimp only at hwz
        go_simp
        try with_reducible rfl
      simp only [List.getElem_toArray, List.getElem_cons_succ, List.getElem_cons_zero, Act.put, List.setIfInBounds_toArray, List.set_cons_zero, List.set_cons_succ]
      refine HT.take (i := 11) (oi := _) (v := ?_) rfl (by kernel_rfl) (by kernel_rfl) (by decide) (fun _ _ _ h => h) (Or.inl ⟨by rfl, ?_⟩) hS ?_
      rotate_left
      · intro wz
        go_simp
        try with_reducible rfl
      simp only [List.getElem_toArray, List.getElem_cons_succ, List.getElem_cons_zero, Act.put, List.setIfInBounds_toArray, List.set_cons_zero, List.set_cons_succ]
      refine HT.done (by kernel_rfl) ?_
      clear hS
      simp only [List.drop_succ_cons, List.drop_zero]
      have HBd := Lib.hid hb.out.drew
      rw [IntWalk.i64_in (-y) (by omega), show (if y < -y then -y else y) = max y (-y) by split <;> omega]
      by_cases hlv : max y (-y) ≤ level
      · have hdl : decide (level < max y (-y)) = false := by simp only [decide_eq_false_iff_not]; omega
        rw [hdl]
        have hq2 : Hid (∀ a, a < k + 1 → max (elOf (rowOf xss a) i) (-(elOf (rowOf xss a) i)) ≤ level) := fun a ha => by
          by_cases hak : a = k
          · rw [hak, HY.out]; exact hlv
          · exact hq.out a (by omega)
        clear hq hlv hdl hcell hcell2 hv0
        go_wp2_with fail
        go_roundw
        case rel => exact ⟨k + 1, by omega, by go_num, hq2, HBd⟩
        case measure => simp [intOf]; omega
      · have hdl : decide (level < max y (-y)) = true := by simp only [decide_eq_true_eq]; omega
        rw [hdl]
        have HV : Hid (quietB xss level i = false) := quiet_no hkx.out (by rw [HY.out]; exact hlv)
        clear hq hlv hdl hcell hcell2 hv0
        go_wp2_with fail
        go_ret
        exact ⟨ret_bool HV.out.symm, HBd.out⟩
    · obtain rfl : k = n := by omega
      have HV : Hid (quietB xss level i = true) := quiet_yes (fun a ha => hq.out a (by rw [← hl.out]; exact ha))
      go_wp2_with fail
      go_ret
      exact ⟨ret_bool HV.out.symm, hb.out⟩
end Go.Proofs.Ytnhmhjhfoonakaa
