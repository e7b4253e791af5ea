/- The plain functions of chapter 2, continued: turning around. No program in sight. -/
import Derived.Test.YtpnbkkpbgpcgiaaSpecC
set_option linter.unusedSimpArgs false
set_option linter.unusedVariables false
namespace Go.Dw
theorem elOf_lt {xs : List Int} {a : Nat} (h : a < xs.length) : elOf xs a = xs[a] := by simp [elOf, List.getD, h]
theorem ext_el {xs ys : List Int} (h : xs.length = ys.length) (he : ∀ a, a < xs.length → elOf xs a = elOf ys a) : xs = ys := by
  apply List.ext_getElem h
  intro i h1 h2
  have := he i h1
  rwa [elOf_lt h1, elOf_lt h2] at this
theorem elOf_set {xs : List Int} {k a : Nat} {y : Int} (hk : k < xs.length) : elOf (xs.set k y) a = if a = k then y else elOf xs a := by
  unfold elOf
  by_cases h : a = k
  · subst h; simp [List.getD, hk]
  · rw [if_neg h]; simp [List.getD, List.getElem?_set_ne (Ne.symm h)]
theorem elOf_reverse {xs : List Int} {a : Nat} (h : a < xs.length) : elOf xs.reverse a = elOf xs (xs.length - 1 - a) := by
  rw [elOf_lt (by simpa using h), elOf_lt (by omega), List.getElem_reverse]
def revK (xs : List Int) (i : Nat) : List Int := (List.range xs.length).map fun a => if a < i ∨ xs.length - i ≤ a then elOf xs (xs.length - 1 - a) else elOf xs a
theorem revK_length {xs : List Int} {i : Nat} : (revK xs i).length = xs.length := by simp [revK]
theorem revK_el {xs : List Int} {i a : Nat} (h : a < xs.length) : elOf (revK xs i) a = if a < i ∨ xs.length - i ≤ a then elOf xs (xs.length - 1 - a) else elOf xs a := by
  rw [elOf_lt (by rw [revK_length]; exact h)]; simp [revK]
theorem revK_start (xs : List Int) : revK xs 0 = xs := by
  refine ext_el revK_length fun a ha => ?_
  rw [revK_length] at ha
  rw [revK_el ha, if_neg (by omega)]
theorem revK_step {xs : List Int} {i : Nat} (h : i < xs.length - 1 - i) :
    ((revK xs i).set i (elOf xs (xs.length - 1 - i))).set (xs.length - 1 - i) (elOf xs i) = revK xs (i + 1) := by
  refine ext_el (by simp [revK_length]) fun a ha => ?_
  simp only [List.length_set, revK_length] at ha
  rw [elOf_set (by rw [List.length_set, revK_length]; omega), elOf_set (by rw [revK_length]; omega), revK_el ha, revK_el ha]
  by_cases h1 : a = xs.length - 1 - i
  · rw [if_pos h1, if_pos (by omega)]; congr 1; omega
  · rw [if_neg h1]
    by_cases h2 : a = i
    · rw [if_pos h2, if_pos (by omega)]; congr 1; omega
    · rw [if_neg h2]
      by_cases h3 : a < i ∨ xs.length - i ≤ a
      · rw [if_pos h3, if_pos (by omega)]
      · rw [if_neg h3, if_neg (by omega)]
theorem revK_end {xs : List Int} {i : Nat} (h : ¬ i < xs.length - 1 - i) (h2 : 2 * i ≤ xs.length) : revK xs i = xs.reverse := by
  refine ext_el (by simp [revK_length]) fun a ha => ?_
  rw [revK_length] at ha
  rw [revK_el ha, elOf_reverse ha]
  by_cases h3 : a < i ∨ xs.length - i ≤ a
  · rw [if_pos h3]
  · rw [if_neg h3]; congr 1; omega
/-- the rows below k turned around -/
def revRows (xss : List (List Int)) (k : Nat) : List (List Int) := (xss.take k).map List.reverse ++ xss.drop k
theorem revRows_length {xss : List (List Int)} {k : Nat} : (revRows xss k).length = xss.length := by simp [revRows]; omega
theorem revRows_start (xss : List (List Int)) : revRows xss 0 = xss := by simp [revRows]
theorem revRows_end {xss : List (List Int)} : revRows xss xss.length = xss.map List.reverse := by simp [revRows]
theorem revRows_row {xss : List (List Int)} {k : Nat} (hk : k < xss.length) : rowOf (revRows xss k) k = rowOf xss k := by
  unfold rowOf revRows
  simp [List.getD, List.getElem?_append, Nat.min_eq_left (Nat.le_of_lt hk)]
theorem revRows_step {xss : List (List Int)} {k : Nat} (hk : k < xss.length) : (revRows xss k).set k (rowOf xss k).reverse = revRows xss (k + 1) := by
  unfold revRows
  have hl : ((xss.take k).map List.reverse).length = k := by simp; omega
  rw [List.set_append_right _ _ (by omega), hl, Nat.sub_self, drop_row hk, List.set_cons_zero, take_row hk, List.map_append]
  simp
def rvS (r : Int) (xss : List (List Int)) : Int × List (List Int) × Int := if chkS r xss ≠ 0 then (0, [], chkS r xss) else (r, xss.map List.reverse, 0)
/-- what is filled element by element, in any order: the done elements are those of yss -/
structure PartOf (yss zss : List (List Int)) (m : Nat) (done : Nat → Nat → Prop) : Prop where
  len : zss.length = yss.length
  rows : ∀ a, a < yss.length → (rowOf zss a).length = m
  el : ∀ a i, a < yss.length → i < m → done a i → elOf (rowOf zss a) i = elOf (rowOf yss a) i
theorem PartOf.start (yss : List (List Int)) (m : Nat) {done : Nat → Nat → Prop} (h : ∀ a i, a < yss.length → i < m → ¬ done a i) : PartOf yss (zeroS yss.length m) m done :=
  ⟨zeroS_length _ _, fun a ha => by rw [zeroS_row ha]; simp, fun a i ha hi hd => absurd hd (h a i ha hi)⟩
theorem rowOf_set' {xss : List (List Int)} {k a : Nat} {xs : List Int} (hk : k < xss.length) : rowOf (xss.set k xs) a = if a = k then xs else rowOf xss a := by
  unfold rowOf
  by_cases h : a = k
  · subst h; simp [List.getD, hk]
  · rw [if_neg h]; simp [List.getD, List.getElem?_set_ne (Ne.symm h)]
theorem PartOf.set_ {yss zss : List (List Int)} {m : Nat} {done done' : Nat → Nat → Prop} (h : PartOf yss zss m done) {k j : Nat} {y : Int} (hk : k < yss.length) (hj : j < m) (hy : elOf (rowOf yss k) j = y)
    (hd : ∀ a i, a < yss.length → i < m → done' a i → done a i ∨ (a = k ∧ i = j)) : PartOf yss (zss.set k ((rowOf zss k).set j y)) m done' := by
  have hk' : k < zss.length := by rw [h.len]; exact hk
  refine ⟨by rw [List.length_set]; exact h.len, fun a ha => ?_, fun a i ha hi hdn => ?_⟩
  · rw [rowOf_set' hk']
    split
    · rw [List.length_set]; exact h.rows k hk
    · exact h.rows a ha
  · rw [rowOf_set' hk']
    by_cases hak : a = k
    · subst hak
      rw [if_pos rfl, elOf_set (by rw [h.rows a ha]; exact hj)]
      by_cases hij : i = j
      · subst hij; rw [if_pos rfl]; exact hy.symm
      · rw [if_neg hij]
        rcases hd a i ha hi hdn with h1 | h1
        · exact h.el a i ha hi h1
        · exact absurd h1.2 hij
    · rw [if_neg hak]
      rcases hd a i ha hi hdn with h1 | h1
      · exact h.el a i ha hi h1
      · exact absurd h1.1 hak
theorem PartOf.weaken {yss zss : List (List Int)} {m : Nat} {done done' : Nat → Nat → Prop} (h : PartOf yss zss m done) (hd : ∀ a i, a < yss.length → i < m → done' a i → done a i) : PartOf yss zss m done' :=
  ⟨h.len, h.rows, fun a i ha hi hx => h.el a i ha hi (hd a i ha hi hx)⟩
theorem PartOf.all {yss zss : List (List Int)} {m : Nat} {done : Nat → Nat → Prop} (h : PartOf yss zss m done) (hm : ∀ a, a < yss.length → (rowOf yss a).length = m) (hd : ∀ a i, a < yss.length → i < m → done a i) : zss = yss := by
  refine ext_rows h.len fun a ha => ?_
  rw [h.len] at ha
  refine ext_el ((h.rows a ha).trans (hm a ha).symm) fun i hi => ?_
  rw [h.rows a ha] at hi
  exact h.el a i ha hi (hd a i ha hi)
theorem rev_row {xss : List (List Int)} {k : Nat} (hk : k < xss.length) : rowOf (xss.map List.reverse) k = (rowOf xss k).reverse := by
  simp [rowOf, List.getD, hk]
end Go.Dw
