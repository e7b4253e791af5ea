/- Positions, rates and ways of rounding, of both sides. -/
import Derived.Test.YtkmcohnhanphdaaGreatDoorMem
import Derived.Test.YtkmcohnhanphdaaGreatDoorProg
import Derived.Test.YtkmcohnhanphdaaGreatDoorZa
import Derived.BigQuiet
set_option linter.unusedSimpArgs false
set_option linter.unusedVariables false
namespace Go.Proofs.YtkmcohnhanphdaaGreatDoor
open Go.RowKit Go.Dw
def okPos (n : Int) : Bool := decide (-10000000000000 ≤ n) && decide (n ≤ 10000000000000)
def okRate (n : Int) : Bool := decide (1 ≤ n) && decide (n ≤ 1000000)
def okWay (n : Int) : Bool := decide (1 ≤ n) && decide (n ≤ 3)
theorem okPos_le {n : Int} (h : okPos n = true) : -10000000000000 ≤ n ∧ n ≤ 10000000000000 := by unfold okPos at h; simpa using h
theorem okRate_le {n : Int} (h : okRate n = true) : 1 ≤ n ∧ n ≤ 1000000 := by unfold okRate at h; simpa using h
theorem ISPOS_any (r : Int) (w : World) : Calls Tryz.prog 58 #[.int .i64 r] w fun e w' => e = .returned (.bool (decide (-10000000000000 ≤ r) && decide (r ≤ 10000000000000))) ∧ w = w' := by
  by_cases h1 : -10000000000000 ≤ r
  · by_cases h2 : r ≤ 10000000000000
    · go_enter Tryz.func58, Tryz.ntmps58
      go_wp2_with fail
      go_ret
      exact ⟨by simp [h1, h2], rfl⟩
    · go_enter Tryz.func58, Tryz.ntmps58
      go_wp2_with fail
      go_ret
      exact ⟨by simp [h1, h2], rfl⟩
  · go_enter Tryz.func58, Tryz.ntmps58
    go_wp2_with fail
    go_ret
    exact ⟨by rw [show decide (-10000000000000 ≤ r) = false by simpa using h1, Bool.false_and]; rfl, rfl⟩
theorem ISRATE_any (r : Int) (w : World) : Calls Tryz.prog 39 #[.int .i64 r] w fun e w' => e = .returned (.bool (decide (1 ≤ r) && decide (r ≤ 1000000))) ∧ w = w' := by
  by_cases h1 : 1 ≤ r
  · by_cases h2 : r ≤ 1000000
    · go_enter Tryz.func39, Tryz.ntmps39
      go_wp2_with fail
      go_ret
      exact ⟨by simp [h1, h2], rfl⟩
    · go_enter Tryz.func39, Tryz.ntmps39
      go_wp2_with fail
      go_ret
      exact ⟨by simp [h1, h2], rfl⟩
  · go_enter Tryz.func39, Tryz.ntmps39
    go_wp2_with fail
    go_ret
    exact ⟨by rw [show decide (1 ≤ r) = false by simpa using h1, Bool.false_and]; rfl, rfl⟩
theorem ISWAY_any (r : Int) (w : World) : Calls Tryz.prog 59 #[.int .i64 r] w fun e w' => e = .returned (.bool (decide (1 ≤ r) && decide (r ≤ 3))) ∧ w = w' := by
  by_cases h1 : 1 ≤ r
  · by_cases h2 : r ≤ 3
    · go_enter Tryz.func59, Tryz.ntmps59
      go_wp2_with fail
      go_ret
      exact ⟨by simp [h1, h2], rfl⟩
    · go_enter Tryz.func59, Tryz.ntmps59
      go_wp2_with fail
      go_ret
      exact ⟨by simp [h1, h2], rfl⟩
  · go_enter Tryz.func59, Tryz.ntmps59
    go_wp2_with fail
    go_ret
    exact ⟨by rw [show decide (1 ≤ r) = false by simpa using h1, Bool.false_and]; rfl, rfl⟩
end Go.Proofs.YtkmcohnhanphdaaGreatDoor

/- CheckPairs and CheckSpans, of both sides. -/
set_option linter.unusedSimpArgs false
set_option linter.unusedVariables false
namespace Go.Proofs.YtkmcohnhanphdaaGreatDoor
open Go.RowKit Go.Dw
def okPr (p : Pr) : Bool := okPos p.1 && okPos p.2
/-- the first error of rows, by what is out of order -/
def rowG (o : List Pr → Nat → Bool) (l : List Pr) : Nat → Nat → Int
  | 0, _ => 0
  | d + 1, k => if okPr (prOf l k) = false then 1 else if o l k = true then 8 else rowG o l d (k + 1)
def ordP (l : List Pr) (k : Nat) : Bool := decide (0 < k) && (decide ((prOf l k).1 ≤ (prOf l (k - 1)).1) || decide ((prOf l k).2 ≤ (prOf l (k - 1)).2))
def ordSp (l : List Pr) (k : Nat) : Bool := decide ((prOf l k).2 ≤ (prOf l k).1) || (decide (0 < k) && decide ((prOf l k).1 ≤ (prOf l (k - 1)).2))
/-- CheckPairs -/
def chkP (l : List Pr) : Int := if l.length < 2 then 9 else if 500 < l.length then 2 else rowG ordP l l.length 0
/-- CheckSpans -/
def chkSp (l : List Pr) : Int := if 1000 < l.length then 2 else rowG ordSp l l.length 0
theorem rowG_at {o : List Pr → Nat → Bool} {l : List Pr} {n k : Nat} {v : Int} (hk : k < n) (h : v = rowG o l (n - k) k) :
    v = if okPr (prOf l k) = false then 1 else if o l k = true then 8 else rowG o l (n - (k + 1)) (k + 1) := by
  rw [h, show n - k = (n - (k + 1)) + 1 by omega]; rfl
theorem rowG_zero {o : List Pr → Nat → Bool} {l : List Pr} : ∀ {d k : Nat}, rowG o l d k = 0 → ∀ j, k ≤ j → j < k + d → okPr (prOf l j) = true ∧ o l j = false
  | 0, k, _, j, h1, h2 => by omega
  | d + 1, k, h, j, h1, h2 => by
    unfold rowG at h
    by_cases a : okPr (prOf l k) = false
    · rw [if_pos a] at h; exact absurd h (by decide)
    · rw [if_neg a] at h
      by_cases b : o l k = true
      · rw [if_pos b] at h; exact absurd h (by decide)
      · rw [if_neg b] at h
        by_cases hj : j = k
        · subst hj; exact ⟨by simpa using a, by simpa using b⟩
        · exact rowG_zero h j (by omega) (by omega)
theorem rowG_range {o : List Pr → Nat → Bool} {l : List Pr} : ∀ {d k : Nat}, 0 ≤ rowG o l d k
  | 0, k => Int.le_refl _
  | d + 1, k => by
    unfold rowG
    split
    · omega
    · split
      · omega
      · exact rowG_range
theorem ordP_zero {l : List Pr} : ordP l 0 = false := rfl
theorem ordP_succ {l : List Pr} {j : Nat} {x y z1 z2 : Int} (h : prOf l (j + 1) = (x, y)) (h' : prOf l j = (z1, z2)) : ordP l (j + 1) = (decide (x ≤ z1) || decide (y ≤ z2)) := by
  unfold ordP; rw [show j + 1 - 1 = j by omega, h, h']; simp
theorem ordSp_zero {l : List Pr} {x y : Int} (h : prOf l 0 = (x, y)) : ordSp l 0 = decide (y ≤ x) := by
  unfold ordSp; rw [h]; simp
theorem ordSp_succ {l : List Pr} {j : Nat} {x y z1 z2 : Int} (h : prOf l (j + 1) = (x, y)) (h' : prOf l j = (z1, z2)) : ordSp l (j + 1) = (decide (y ≤ x) || decide (x ≤ z2)) := by
  unfold ordSp; rw [show j + 1 - 1 = j by omega, h, h']; simp
end Go.Proofs.YtkmcohnhanphdaaGreatDoor

/- Turned, of both sides. -/
set_option linter.unusedSimpArgs false
set_option linter.unusedVariables false
namespace Go.Proofs.YtkmcohnhanphdaaGreatDoor
open Go.RowKit Go.Dw
def swapP (l : List Pr) : List Pr := l.map fun p => (p.2, p.1)
/-- Turned -/
def turnS (l : List Pr) : List Pr × Int := if chkP l = 0 then (swapP l, 0) else ([], chkP l)
theorem swap_len (l : List Pr) : (swapP l).length = l.length := by simp [swapP]
theorem swap_at {l : List Pr} {k : Nat} (h : k < l.length) : prOf (swapP l) k = ((prOf l k).2, (prOf l k).1) := by
  simp [swapP, prOf, List.getD, List.getElem?_map, List.getElem?_eq_getElem h]
theorem swap_take {l : List Pr} {k : Nat} {x y : Int} (h : k < l.length) (hp : prOf l k = (x, y)) : (swapP l).take (k + 1) = (swapP l).take k ++ [(y, x)] := by
  rw [take_pr (by rw [swap_len]; exact h), swap_at h, hp]
theorem swap_fill {l : List Pr} {n k : Nat} {x y : Int} (hl : l.length = n) (h : k < n) (hp : prOf l k = (x, y)) :
    ((swapP l).take k ++ List.replicate (n - k) (0, 0)).set k (y, x) = (swapP l).take (k + 1) ++ List.replicate (n - (k + 1)) (0, 0) := by
  have e1 : ((swapP l).take k).length = k := by rw [List.length_take, swap_len]; omega
  rw [List.set_append_right _ _ (by omega), e1, Nat.sub_self, show n - k = (n - (k + 1)) + 1 by omega, List.replicate_succ, List.set_cons_zero, swap_take (by omega) hp, List.append_assoc]
  rfl
theorem chkP_ok {l : List Pr} (h : chkP l = 0) : 2 ≤ l.length ∧ l.length ≤ 500 := by
  unfold chkP at h
  by_cases h1 : l.length < 2
  · rw [if_pos h1] at h; exact absurd h (by decide)
  · rw [if_neg h1] at h
    by_cases h2 : 500 < l.length
    · rw [if_pos h2] at h; exact absurd h (by decide)
    · omega
def OutT2 (E : TypeId) (w : World) (z : List Pr × Int) (e : Ending) (w' : World) : Prop := ∃ v, e = .returned (.tuple #[v, .int .i64 z.2]) ∧ OwnPrs E w' w.heap.size v z.1 ∧ Below w.heap.size w w'
end Go.Proofs.YtkmcohnhanphdaaGreatDoor

/- Moved, of both sides. -/
set_option linter.unusedSimpArgs false
set_option linter.unusedVariables false
namespace Go.Proofs.YtkmcohnhanphdaaGreatDoor
open Go.RowKit Go.Dw
def shP (b : Int) (p : Pr) : Pr := (p.1 + b, p.2 + b)
/-- Moved -/
def movS (l : List Pr) (b : Int) : List Pr × Int := if chkSp l ≠ 0 then ([], chkSp l) else if okPos b = false then ([], 1) else if l.all (fun p => okPr (shP b p)) then (l.map (shP b), 0) else ([], 1)
theorem pr_cells {w : World} {g : Nat} {v0 v1 : Value} {T : TypeId} (h : w.heap[g]? = some (.cells #[v0, v1] T (0, 0))) : w.cell? ⟨g, 0, none⟩ = some v0 ∧ w.cell? ⟨g, 1, none⟩ = some v1 ∧ w.frozen? ⟨g, 0, none⟩ = false ∧ w.frozen? ⟨g, 1, none⟩ = false := by
  have h0 := own_cell1 h 0
  have h1 := own_cell1 h 1
  simp only [List.getElem?_toArray, List.getElem?_cons_zero, List.getElem?_cons_succ] at h0 h1
  exact ⟨h0, h1, frozen_of_row w g 0 _ _ h, frozen_of_row w g 1 _ _ h⟩
theorem heap2_store {w : World} {g : Nat} {o0 o1 v0 v1 : Value} {T : TypeId} (h : w.heap[g]? = some (.cells #[o0, o1] T (0, 0))) : ((w.setCell ⟨g, 0, none⟩ v0).setCell ⟨g, 1, none⟩ v1).heap[g]? = some (.cells #[v0, v1] T (0, 0)) := by
  simp only [World.setCell, Array.getElem?_modify, h]
  simp
theorem chkSp_few {l : List Pr} (h : chkSp l = 0) : l.length ≤ 1000 := by
  unfold chkSp at h
  by_cases h1 : 1000 < l.length
  · rw [if_pos h1] at h; exact absurd h (by decide)
  · omega
theorem chkSp_rng {l : List Pr} (h : chkSp l = 0) {k : Nat} (hk : k < l.length) : (-10000000000000 ≤ (prOf l k).1 ∧ (prOf l k).1 ≤ 10000000000000) ∧ (-10000000000000 ≤ (prOf l k).2 ∧ (prOf l k).2 ≤ 10000000000000) := by
  have hf := chkSp_few h
  unfold chkSp at h
  rw [if_neg (by omega)] at h
  obtain ⟨a, _⟩ := rowG_zero h k (by omega) (by omega)
  unfold okPr at a
  rw [Bool.and_eq_true] at a
  exact ⟨okPos_le a.1, okPos_le a.2⟩
theorem all_take_fail {l : List Pr} {P : Pr → Bool} {k : Nat} (hk : k < l.length) (h : P (prOf l k) = false) : l.all P = false := by
  rw [List.all_eq_false]
  exact ⟨_, pr_mem hk, by rw [h]; simp⟩
theorem all_of_each {l : List Pr} {P : Pr → Bool} (h : ∀ j, j < l.length → P (prOf l j) = true) : l.all P = true := by
  rw [List.all_eq_true]
  intro x hx
  obtain ⟨i, hi, rfl⟩ := List.getElem_of_mem hx
  have := h i hi
  simpa [prOf, List.getD, List.getElem?_eq_getElem hi] using this
theorem sh_take {l : List Pr} {b x y : Int} {k : Nat} (hk : k < l.length) (hp : prOf l k = (x, y)) : (l.map (shP b)).take (k + 1) = (l.map (shP b)).take k ++ [(x + b, y + b)] := by
  rw [← List.map_take, ← List.map_take, take_pr hk, hp, List.map_append]; rfl
end Go.Proofs.YtkmcohnhanphdaaGreatDoor

/- Outward, of both sides. -/
set_option linter.unusedSimpArgs false
set_option linter.unusedVariables false
namespace Go.Proofs.YtkmcohnhanphdaaGreatDoor
open Go.RowKit Go.Dw
/-- Append: one span more, which may grow into the last one -/
def appS (acc : List Pr) (p : Pr) : List Pr := if 0 < acc.length ∧ p.1 ≤ (prOf acc (acc.length - 1)).2 then acc.set (acc.length - 1) ((prOf acc (acc.length - 1)).1, max (prOf acc (acc.length - 1)).2 p.2) else acc ++ [p]
theorem appS_len (acc : List Pr) (p : Pr) : (appS acc p).length ≤ acc.length + 1 := by
  unfold appS
  split
  · rw [List.length_set]; omega
  · simp
theorem appS_set {acc : List Pr} {m : Nat} {x y z1 z2 : Int} (hl : acc.length = m + 1) (hz : prOf acc m = (z1, z2)) (h : x ≤ z2) : appS acc (x, y) = acc.set m ((prOf acc m).1, max z2 y) := by
  unfold appS
  rw [hl, show m + 1 - 1 = m by omega, if_pos ⟨by omega, by rw [hz]; exact h⟩, hz]
theorem appS_new {acc : List Pr} {x y : Int} (h : ∀ m, acc.length = m + 1 → ¬ x ≤ (prOf acc m).2) : appS acc (x, y) = acc ++ [(x, y)] := by
  unfold appS
  rw [if_neg]
  rintro ⟨h1, h2⟩
  exact h (acc.length - 1) (by omega) h2
end Go.Proofs.YtkmcohnhanphdaaGreatDoor
