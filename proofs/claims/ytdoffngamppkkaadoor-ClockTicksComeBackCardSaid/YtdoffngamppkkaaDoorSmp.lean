/- SampleAt. -/
import Derived.Test.YtdoffngamppkkaaDoorTempoW
import Derived.Test.YtdoffngamppkkaaDoorDiv
set_option linter.unusedSimpArgs false
set_option linter.unusedVariables false
namespace Go.Proofs.YtdoffngamppkkaaDoor
open Go.RowKit Go.Dw
/-- rows that begin rightly are right tempos -/
theorem rowF_ok {M : Int} : ∀ (d : Nat) (l : List Pr) (k : Nat), l.length = k + d → rowF (tAt l) (tOk M l) d k = 0 →
    ∀ j, k ≤ j → j < l.length → (0 ≤ (prOf l j).1 ∧ (prOf l j).1 ≤ 1000000000) ∧ (1 ≤ (prOf l j).2 ∧ (prOf l j).2 ≤ M) ∧ (j = 0 → (prOf l j).1 = 0) ∧ (0 < j → (prOf l (j - 1)).1 < (prOf l j).1)
  | 0, l, k, hl, _, j, h1, h2 => by omega
  | d + 1, l, k, hl, h, j, h1, h2 => by
    unfold rowF at h
    by_cases hbad : tAt l k < 0 ∨ 1000000000 < tAt l k ∨ tOk M l k = false
    · rw [if_pos hbad] at h; cases h
    rw [if_neg hbad] at h
    by_cases hord : (k = 0 ∧ tAt l k ≠ 0) ∨ (0 < k ∧ tAt l k ≤ tAt l (k - 1))
    · rw [if_pos hord] at h; cases h
    rw [if_neg hord] at h
    by_cases hj : j = k
    · subst hj
      unfold tAt at hbad hord
      have h3 : tOk M l j = true := by
        cases e : tOk M l j with
        | true => rfl
        | false => exact absurd (.inr (.inr e)) hbad
      unfold tOk at h3
      simp only [Bool.and_eq_true, decide_eq_true_eq] at h3
      refine ⟨⟨by omega, by omega⟩, h3, fun h0 => ?_, fun h0 => ?_⟩
      · have := fun h => hord (.inl ⟨h0, h⟩)
        exact Classical.byContradiction this
      · have := fun h => hord (.inr ⟨h0, h⟩)
        omega
    · exact rowF_ok d l (k + 1) (by omega) h j (by omega) h2
theorem incT_of : ∀ (l : List Pr), (∀ j, j < l.length → (1 ≤ (prOf l j).2 ∧ (prOf l j).2 ≤ 60000000) ∧ (0 < j → (prOf l (j - 1)).1 < (prOf l j).1)) → incT l
  | [], _ => trivial
  | [p], h => (h 0 (by simp)).1
  | p :: q :: r, h => by
    refine ⟨(h 0 (by simp)).1, (h 1 (by simp)).2 (by omega), incT_of (q :: r) fun j hj => ?_⟩
    have h1 := h (j + 1) (by simp at hj ⊢; omega)
    refine ⟨h1.1, fun h0 => ?_⟩
    have h2 := h1.2 (by omega)
    have e : j + 1 - 1 = (j - 1) + 1 := by omega
    rw [e] at h2
    exact h2
theorem chk_len {M : Int} {l : List Pr} (h : chkL M l = 0) : 0 < l.length ∧ l.length ≤ 200 := by
  unfold chkL chkRow at h
  by_cases h0 : l.length = 0
  · rw [if_pos h0] at h; cases h
  rw [if_neg h0] at h
  by_cases h2 : 200 < l.length
  · rw [if_pos h2] at h; cases h
  omega
theorem chk_rows {M : Int} {l : List Pr} (h : chkL M l = 0) (j : Nat) (hj : j < l.length) :
    (0 ≤ (prOf l j).1 ∧ (prOf l j).1 ≤ 1000000000) ∧ (1 ≤ (prOf l j).2 ∧ (prOf l j).2 ≤ M) ∧ (j = 0 → (prOf l j).1 = 0) ∧ (0 < j → (prOf l (j - 1)).1 < (prOf l j).1) := by
  have hl := chk_len h
  unfold chkL chkRow at h
  rw [if_neg (by omega), if_neg (by omega)] at h
  exact rowF_ok _ l 0 (by omega) h j (Nat.zero_le _) hj
theorem okP_of {l : List Pr} (h : chkL 60000000 l = 0) : OkP l := by
  have hl := chk_len h
  refine ⟨incT_of l fun j hj => ⟨(chk_rows h j hj).2.1, (chk_rows h j hj).2.2.2⟩, fun p hp => ?_, hl.1, hl.2, (chk_rows h 0 hl.1).2.2.1 rfl⟩
  obtain ⟨j, hj, e⟩ := List.getElem_of_mem hp
  have h1 := (chk_rows h j hj).1
  have e2 : prOf l j = p := by simp [prOf, List.getD, List.getElem?_eq_getElem hj, e]
  rw [e2] at h1
  exact h1
theorem okP_chkT {l ms : List Pr} (h : chkT l ms = 0) : OkP l ∧ chkL 32 ms = 0 := by
  unfold chkT at h
  by_cases h0 : chkL 60000000 l = 0
  · rw [if_neg (by simpa using h0)] at h
    exact ⟨okP_of h0, h⟩
  · rw [if_pos h0] at h; exact absurd h h0
theorem mom_top {l : List Pr} (hok : OkP l) {t : Int} (ht0 : 0 ≤ t) (ht1 : t ≤ 1000000000) : 0 ≤ mom t l ∧ mom t l ≤ 60000000000000000 := by
  have h1 := hok.some
  have h2 := hok.first
  obtain ⟨p, r, e⟩ : ∃ p r, l = p :: r := by cases l with | nil => simp at h1 | cons p r => exact ⟨p, r, rfl⟩
  have h3 : p.1 = 0 := by rw [e] at h2; exact h2
  have hi := hok.inc
  rw [e] at hi ⊢
  have := mom_le hi (t := t) (by omega)
  rw [h3] at this
  omega
def badS (rate t T : Int) : Prop := ¬ (1 ≤ rate ∧ rate ≤ 1000000) ∨ t < 0 ∨ T < t
instance (rate t T : Int) : Decidable (badS rate t T) := by unfold badS; exact inferInstance
/-- SampleAt -/
def sampS (l ms : List Pr) (rate t : Int) : Int × Int :=
  if chkT l ms ≠ 0 then (0, chkT l ms) else if badS rate t 1000000000 then (0, 1) else
  if 10000000000000 < ceilB ((mom t l).toNat * rate.toNat) then (0, 1) else ((ceilB ((mom t l).toNat * rate.toNat) : Nat), 0)
theorem ISRATE_any (r : Int) (w : World) : Calls Tryd.prog 27 #[.int .i64 r] w fun e w' => e = .returned (.bool (decide (1 ≤ r) && decide (r ≤ 1000000))) ∧ w = w' := by
  by_cases h1 : 1 ≤ r
  · by_cases h2 : r ≤ 1000000
    · go_enter Tryd.func27, Tryd.ntmps27
      go_wp2_with fail
      go_ret
      exact ⟨by simp [h1, h2], rfl⟩
    · go_enter Tryd.func27, Tryd.ntmps27
      go_wp2_with fail
      go_ret
      exact ⟨by simp [h1, h2], rfl⟩
  · go_enter Tryd.func27, Tryd.ntmps27
    go_wp2_with fail
    go_ret
    exact ⟨by rw [show decide (1 ≤ r) = false by simpa using h1, Bool.false_and]; rfl, rfl⟩
end Go.Proofs.YtdoffngamppkkaaDoor
