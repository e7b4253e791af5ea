/- slices.Reverse at []int, over a row of the call's own. -/
import Derived.Test.YtnhmhjhfoonakaaEach
import Derived.Test.YtnhmhjhfoonakaaWa
import Derived.RegionTactic
import Derived.BigRegion
set_option linter.unusedSimpArgs false
set_option linter.unusedVariables false
namespace Go.Proofs.Ytnhmhjhfoonakaa
open Go.RowKit Go.Dw

/-- one row is written anew, in its place -/
theorem OwnRowsL.rewrite {w w' : World} {B : Nat} {v r : Value} {k b : Nat} {xs : List Int} {xss : List (List Int)} {rows : List Value} (h : OwnRowsL w B v xss rows) (hr : rows[k]? = some r) (hb : r.ownBlock = some b) (hg : w.grownBy w' (some b)) (hn : w'.ownsRow B 3 1 r xs.length (xs.map (Value.int .i64))) :
    OwnRowsL w' B v (xss.set k xs) rows := by
  have hl : rows.length = xss.length := by simpa using h.outer.1
  have hk : k < xss.length := by have := (List.getElem?_eq_some_iff.1 hr).1; omega
  have hin := h.inner k _ hr
  refine ⟨?_, fun i q hq => ?_, h.apart⟩
  · rw [List.length_set]
    refine h.outer.kept hg ?_
    rcases own_ne h.outer hin (by decide) with h1 | h1
    · exact .inl h1
    · exact .inr (by rw [← hb]; exact h1)
  · rw [rowOf_set _ _ _ _ hk]
    by_cases hik : i = k
    · subst hik
      rw [if_pos rfl]
      rw [hr] at hq
      injection hq with hq
      subst hq
      exact hn
    · rw [if_neg hik]
      refine (h.inner i q hq).kept hg ?_
      rcases Nat.lt_or_gt_of_ne hik with hlt | hlt
      · rcases h.apart i k q _ hlt hq hr with h1 | h1
        · exact .inl h1
        · exact .inr (by rw [← hb]; exact h1)
      · rcases h.apart k i _ q hlt hr hq with h1 | h1
        · rw [hb] at h1; cases h1
        · exact .inr (by rw [← hb]; exact Ne.symm h1)

theorem grown_own (w : World) (b j : Nat) (u : Value) : w.grownBy (w.setCell ⟨b, j, none⟩ u) (some b) :=
  ⟨rfl, rfl, rfl, by simp [World.setCell], fun i hi hne => Below.heap_setCell _ _ _ _ (by simpa using fun e => hne (by rw [e]))⟩
end Go.Proofs.Ytnhmhjhfoonakaa
