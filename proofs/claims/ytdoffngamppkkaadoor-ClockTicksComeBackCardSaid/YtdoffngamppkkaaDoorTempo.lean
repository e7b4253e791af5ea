/- CheckTempo. -/
import Derived.Test.YtdoffngamppkkaaDoorChkRow
import Derived.OwnWalk
import Derived.Deep.OwnRows
import Derived.Laws.OwnMore
set_option linter.unusedSimpArgs false
set_option linter.unusedVariables false
namespace Go.Proofs.YtdoffngamppkkaaDoor
open Go.RowKit Go.Dw
set_option maxRecDepth 100000 in
set_option maxHeartbeats 1000000 in
theorem CHECKROWS_any (A A' : Option Addr) (n c c' : Nat) (a : Nat → Int) (r : Nat → Bool) (w : World) (hx : Hid (VsAt w w.heap.size A n fun k => .int .i64 (a k))) (hy : Hid (VsAt w w.heap.size A' n fun k => .bool (r k))) :
    Calls Tryd.prog 46 #[.slice A n c, .slice A' n c'] w fun e w' => e = .returned (.int .i64 (chkRow a r n)) ∧ w = w' := by
  unfold chkRow
  by_cases h0 : n = 0
  · rw [if_pos h0]
    subst h0
    clear hx hy
    go_enter Tryd.func46, Tryd.ntmps46
    go_wp2_with fail
    go_ret
    exact ⟨rfl, rfl⟩
  · rw [if_neg h0]
    by_cases h2 : 200 < n
    · rw [if_pos h2]
      have d1 : ((n : Int) == 0) = false := by simp; omega
      have d2 : decide ((200 : Int) < (n : Int)) = true := by simp; omega
      clear hx hy h0 h2
      go_enter Tryd.func46, Tryd.ntmps46
      go_wp2_with fail
      go_ret
      exact ⟨rfl, rfl⟩
    · rw [if_neg h2]
      exact CHECKROWS_ok A A' n c c' a r (by omega) (by omega) w hx hy
/-- a row of n values, of which k are filled in -/
def fillV (n k : Nat) (f : Nat → Value) (z : Value) : List Value := (List.range n).map fun j => if j < k then f j else z
theorem fillV_set {n k : Nat} {f : Nat → Value} {z : Value} (hk : k < n) : (fillV n k f z).set k (f k) = fillV n (k + 1) f z := by
  apply List.ext_getElem?
  intro j
  unfold fillV
  by_cases hj : j < n
  · by_cases hjk : k = j
    · subst hjk
      rw [List.getElem?_set_self (by simpa using hk)]
      simp [hk]
    · rw [List.getElem?_set_ne hjk]
      simp only [List.getElem?_map, List.getElem?_range hj, Option.map_some]
      by_cases h1 : j < k
      · rw [if_pos h1, if_pos (by omega)]
      · rw [if_neg h1, if_neg (by omega)]
  · rw [List.getElem?_eq_none (by simp; omega), List.getElem?_eq_none (by simp; omega)]
theorem fillV_zero {n : Nat} {f : Nat → Value} {z : Value} : List.replicate n z = fillV n 0 f z := by
  apply List.ext_getElem?
  intro j
  unfold fillV
  by_cases hj : j < n
  · simp [hj]
  · simp [hj]
theorem fillV_at {n j : Nat} {f : Nat → Value} {z : Value} (hj : j < n) : (fillV n n f z)[j]? = some (f j) := by
  unfold fillV
  simp [hj]
/-- the rows that CheckTempo fills -/
structure FillR (w : World) (B gi gb n k : Nat) (fa : Nat → Int) (fr : Nat → Bool) : Prop where
  ints : w.ownsRow B 3 1 (.slice (some ⟨gi, 0, none⟩) n n) n (fillV n k (fun j => .int .i64 (fa j)) (.int .i64 0))
  bools : w.ownsRow B 4 1 (.slice (some ⟨gb, 0, none⟩) n n) n (fillV n k (fun j => .bool (fr j)) (.bool false))
theorem FillR.below {w w' : World} {B gi gb n k : Nat} {fa : Nat → Int} {fr : Nat → Bool} (h : FillR w B gi gb n k fa fr) (hb : Below w.heap.size w w') : FillR w' B gi gb n k fa fr :=
  ⟨own_below h.ints hb, own_below h.bools hb⟩
theorem FillR.start {w : World} {B n : Nat} {fa : Nat → Int} {fr : Nat → Bool} (hB : B ≤ w.heap.size) (hn : n ≤ maxLen) :
    FillR ((w.alloc (.cells (madeCells #[.int .i64 0] n) 3)).alloc (.cells (madeCells #[.bool false] n) 4)) B w.heap.size (w.heap.size + 1) n 0 fa fr := by
  have h1 := World.ownsRow_lit (base := B) (e := 3) (size := 1) w (madeCells #[.int .i64 0] n) n hB hn (by simp [size_madeCells])
  have h2 := World.ownsRow_lit (base := B) (e := 4) (size := 1) (w.alloc (.cells (madeCells #[.int .i64 0] n) 3)) (madeCells #[.bool false] n) n (by simp; omega) hn (by simp [size_madeCells])
  rw [toList_madeCells_one, fillV_zero (f := fun j => .int .i64 (fa j))] at h1
  rw [toList_madeCells_one, fillV_zero (f := fun j => .bool (fr j))] at h2
  refine ⟨h1.alloc _, ?_⟩
  rw [World.size_alloc] at h2
  exact h2
theorem FillR.start2 {w : World} {B n : Nat} {fa : Nat → Int} {fr : Nat → Bool} (hB : B ≤ w.heap.size) (hn : n ≤ maxLen) :
    FillR ((w.alloc (.cells (madeCells #[.bool false] n) 4)).alloc (.cells (madeCells #[.int .i64 0] n) 3)) B (w.heap.size + 1) w.heap.size n 0 fa fr := by
  have h1 := World.ownsRow_lit (base := B) (e := 4) (size := 1) w (madeCells #[.bool false] n) n hB hn (by simp [size_madeCells])
  have h2 := World.ownsRow_lit (base := B) (e := 3) (size := 1) (w.alloc (.cells (madeCells #[.bool false] n) 4)) (madeCells #[.int .i64 0] n) n (by simp; omega) hn (by simp [size_madeCells])
  rw [toList_madeCells_one, fillV_zero (f := fun j => .bool (fr j))] at h1
  rw [toList_madeCells_one, fillV_zero (f := fun j => .int .i64 (fa j))] at h2
  rw [World.size_alloc] at h2
  exact ⟨h2, h1.alloc _⟩
theorem FillR.next {w : World} {B gi gb n k : Nat} {fa : Nat → Int} {fr : Nat → Bool} (h : FillR w B gi gb n k fa fr) (hk : k < n) :
    FillR ((w.setCell ⟨gi, k, none⟩ (.int .i64 (fa k))).setCell ⟨gb, k, none⟩ (.bool (fr k))) B gi gb n (k + 1) fa fr ∧ B ≤ gi ∧ B ≤ gb := by
  obtain ⟨h1, g1⟩ := h.ints.stored k (.int .i64 (fa k))
  rw [fillV_set hk] at h1
  have hne := own_ne h.ints h.bools (by decide)
  have hne' := own_ne h.bools h.ints (by decide)
  have h2 := h.bools.kept g1 (by rcases hne' with h | h; simp [Value.ownBlock] at h; exact .inr h)
  obtain ⟨h3, g3⟩ := h2.stored k (.bool (fr k))
  rw [fillV_set hk] at h3
  exact ⟨⟨h1.kept g3 (by rcases hne with h | h; simp [Value.ownBlock] at h; exact .inr h), h3⟩, (own_lt h.ints rfl).1, (own_lt h.bools rfl).1⟩
theorem FillR.done {w : World} {B gi gb n : Nat} {fa : Nat → Int} {fr : Nat → Bool} (h : FillR w B gi gb n n fa fr) :
    VsAt w w.heap.size (some ⟨gi, 0, none⟩) n (fun k => .int .i64 (fa k)) ∧ VsAt w w.heap.size (some ⟨gb, 0, none⟩) n (fun k => .bool (fr k)) := by
  refine ⟨fun k hk => ⟨gi, 0, rfl, (own_lt h.ints rfl).2, ?_⟩, fun k hk => ⟨gb, 0, rfl, (own_lt h.bools rfl).2, ?_⟩⟩
  · rw [Nat.zero_add, h.ints.cellAt k (by omega), fillV_at hk]
  · rw [Nat.zero_add, h.bools.cellAt k (by omega), fillV_at hk]
theorem infoInt : (Tryd.prog.info? 3).map (fun i => (i.zero, i.size, i.bytes)) = some (some (.int .i64 0), 1, 8) := by kernel_rfl
theorem infoBool : (Tryd.prog.info? 4).map (fun i => (i.zero, i.size, i.bytes)) = some (some (.bool false), 1, 1) := by kernel_rfl
theorem mkInts (n : Nat) (hn : n ≤ 8796093022207) (W : World) : (Instr.makeSlice 65 (.int .i64 (n : Int)) (.int .i64 (n : Int))).run Tryd.prog W = .ok (.slice (some ⟨W.heap.size, 0, none⟩) n n) (W.alloc (.cells (madeCells #[.int .i64 0] n) 3)) :=
  run_make_row' 65 3 (.int .i64 0) 8 Tryd.underlying65 infoInt rfl .i64 .i64 n (by omega) (by omega) W
theorem mkBools (n : Nat) (hn : n ≤ 8796093022207) (W : World) : (Instr.makeSlice 66 (.int .i64 (n : Int)) (.int .i64 (n : Int))).run Tryd.prog W = .ok (.slice (some ⟨W.heap.size, 0, none⟩) n n) (W.alloc (.cells (madeCells #[.bool false] n) 4)) :=
  run_make_row' 66 4 (.bool false) 1 Tryd.underlying66 infoBool rfl .i64 .i64 n (by omega) (by omega) W
end Go.Proofs.YtdoffngamppkkaaDoor
