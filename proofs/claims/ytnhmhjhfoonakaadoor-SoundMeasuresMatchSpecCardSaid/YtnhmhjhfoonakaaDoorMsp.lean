/- Measures: the sums and changes of sign, plain. -/
import Derived.Test.YtnhmhjhfoonakaaDoorSpec
set_option linter.unusedSimpArgs false
set_option linter.unusedVariables false
namespace Go.Dw
def crU (s : Int × Int) (x : Int) : Int × Int := if x = 0 then s else (if s.2 ≠ 0 ∧ decide (0 < x) ≠ decide (0 < s.2) then s.1 + 1 else s.1, x)
def sqU (s x : Int) : Int := s + x * x
theorem crU_zero (s : Int × Int) : crU s 0 = s := if_pos rfl
theorem crU_up {m l x : Int} (hx : x ≠ 0) (hl : l ≠ 0) (h : decide (0 < x) ≠ decide (0 < l)) : crU (m, l) x = (m + 1, x) := by unfold crU; rw [if_neg hx]; dsimp only; rw [if_pos ⟨hl, h⟩]
theorem crU_keep {m l x : Int} (hx : x ≠ 0) (h : l = 0 ∨ decide (0 < x) = decide (0 < l)) : crU (m, l) x = (m, x) := by
  unfold crU; rw [if_neg hx]; dsimp only; rw [if_neg]
  rintro ⟨h1, h2⟩
  rcases h with h | h
  · exact h1 h
  · exact h2 h
theorem crU_bd (s : Int × Int) (x : Int) : s.1 ≤ (crU s x).1 ∧ (crU s x).1 ≤ s.1 + 1 := by
  unfold crU
  split
  · omega
  · dsimp only; split <;> omega
theorem crU_last {s : Int × Int} {x : Int} (h : -8388608 ≤ s.2 ∧ s.2 ≤ 8388607) (hx : smpB x = true) : -8388608 ≤ (crU s x).2 ∧ (crU s x).2 ≤ 8388607 := by
  have := smpB_yes hx
  unfold crU
  split
  · exact h
  · exact this
theorem stR_cr : ∀ (xs : List Int) (s : Int × Int), (∀ x ∈ xs, smpB x = true) → (-8388608 ≤ s.2 ∧ s.2 ≤ 8388607) → s.1 ≤ (stR crU s xs).1 ∧ (stR crU s xs).1 ≤ s.1 + xs.length ∧ -8388608 ≤ (stR crU s xs).2 ∧ (stR crU s xs).2 ≤ 8388607
  | [], s, _, h => by simp [stR]; exact h
  | x :: xs, s, hs, h => by
    have h1 := stR_cr xs (crU s x) (fun y hy => hs y (by simp [hy])) (crU_last h (hs x (by simp)))
    have h2 := crU_bd s x
    show s.1 ≤ (stR crU (crU s x) xs).1 ∧ (stR crU (crU s x) xs).1 ≤ _ ∧ _ ≤ (stR crU (crU s x) xs).2 ∧ (stR crU (crU s x) xs).2 ≤ _
    simp only [List.length_cons]
    omega
theorem sq_le {x : Int} (h : smpB x = true) : 0 ≤ x * x ∧ x * x ≤ 70368744177664 := by
  obtain ⟨h1, h2⟩ := smpB_yes h
  refine ⟨by rcases Int.le_total 0 x with h | h; exact Int.mul_nonneg h h; exact Int.mul_nonneg_of_nonpos_of_nonpos h h, ?_⟩
  have h3 : (x.natAbs : Int) * x.natAbs ≤ 8388608 * 8388608 := Int.mul_le_mul (by omega) (by omega) (by omega) (by omega)
  rw [Int.natAbs_mul_self'] at h3
  omega
theorem stR_sq : ∀ (xs : List Int) (s : Int), (∀ x ∈ xs, smpB x = true) → s ≤ stR sqU s xs ∧ stR sqU s xs ≤ s + xs.length * 70368744177664
  | [], s, _ => by simp [stR]
  | x :: xs, s, hs => by
    have h1 := stR_sq xs (sqU s x) (fun y hy => hs y (by simp [hy]))
    have h2 := sq_le (hs x (by simp))
    show s ≤ stR sqU (sqU s x) xs ∧ stR sqU (sqU s x) xs ≤ _
    unfold sqU at h1 ⊢
    simp only [List.length_cons]
    omega
theorem OkS.smpRow {r : Int} {xss : List (List Int)} (h : OkS r xss) {k : Nat} (hk : k < xss.length) : ∀ x ∈ rowOf xss k, smpB x = true := List.all_eq_true.1 (h.row hk).2
/-- the samples of a span -/
def cutRow (p q : Nat) (xs : List Int) : List Int := (xs.drop p).take (q - p)
theorem cutRow_length {p q : Nat} {xs : List Int} (hp : p ≤ q) (hq : q ≤ xs.length) : (cutRow p q xs).length = q - p := by simp [cutRow]; omega
theorem cutRow_el {p q j : Nat} {xs : List Int} (hq : q ≤ xs.length) (hj : j < q - p) : elOf (cutRow p q xs) j = elOf xs (p + j) := by
  simp [cutRow, elOf, List.getD, hj]
theorem cutRow_smp {p q : Nat} {xs : List Int} (h : ∀ x ∈ xs, smpB x = true) : ∀ x ∈ cutRow p q xs, smpB x = true := fun x hx => h x (List.mem_of_mem_drop (List.mem_of_mem_take hx))
theorem sq_take {xs : List Int} {j : Nat} (hj : j < xs.length) : stR sqU 0 (xs.take (j + 1)) = stR sqU 0 (xs.take j) + elOf xs j * elOf xs j := by rw [stR_take hj]; rfl
theorem sq_take_bd {xs : List Int} (h : ∀ x ∈ xs, smpB x = true) (hl : xs.length ≤ 100000) (j : Nat) : 0 ≤ stR sqU 0 (xs.take j) ∧ stR sqU 0 (xs.take j) ≤ 7036874417766400000 := by
  have h1 := stR_sq (xs.take j) 0 (fun x hx => h x (List.mem_of_mem_take hx))
  have h2 : (xs.take j).length ≤ 100000 := by simp; omega
  omega
theorem cr_take_bd {xs : List Int} (h : ∀ x ∈ xs, smpB x = true) (hl : xs.length ≤ 100000) (j : Nat) : 0 ≤ (stR crU (0, 0) (xs.take j)).1 ∧ (stR crU (0, 0) (xs.take j)).1 ≤ 100000 ∧ -8388608 ≤ (stR crU (0, 0) (xs.take j)).2 ∧ (stR crU (0, 0) (xs.take j)).2 ≤ 8388607 := by
  have h1 := stR_cr (xs.take j) (0, 0) (fun x hx => h x (List.mem_of_mem_take hx)) (by simp)
  have h2 : (xs.take j).length ≤ 100000 := by simp; omega
  dsimp only at h1
  omega
end Go.Dw
