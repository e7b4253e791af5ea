/- The builtin copy into a row of the call's own; rows between two rules. -/
import Derived.Test.YtnhmhjhfoonakaaRev2
import Derived.Laws.CopyOwn
set_option linter.unusedSimpArgs false
set_option linter.unusedVariables false
namespace Go.Proofs.Ytnhmhjhfoonakaa
open Go.RowKit Go.Dw

theorem own_setRow {w : World} {base : Nat} {e : TypeId} {b m cap : Nat} {ds : List Value} (h : w.ownsRow base e 1 (.slice (some ⟨b, 0, none⟩) m cap) m ds) :
    ∃ cur, w.heap[b]? = some (.cells cur e (0, 0)) ∧ m ≤ cur.size ∧ ∀ cs : List Value, cs.length ≤ m → (w.setRow b (cur.toList.take 0 ++ (cs ++ cur.toList.drop (0 + cs.length))).toArray).ownsRow base e 1 (.slice (some ⟨b, 0, none⟩) m cap) m (cs ++ ds.drop cs.length) ∧
      w.grownBy (w.setRow b (cur.toList.take 0 ++ (cs ++ cur.toList.drop (0 + cs.length))).toArray) (some b) := by
  have hl := h.1
  rcases h.2 with ⟨h0, _⟩ | ⟨g, cap', cur, he, hb, hh, h1, h2, h3, h4⟩
  · cases h0
  · injection he with e1 e2 e3
    injection e1 with e1
    injection e1 with e1
    subst e1 e3
    refine ⟨cur, hh, by omega, fun cs hcs => ⟨⟨?_, .inr ⟨b, cap, _, rfl, hb, setRow_heap w b cur _ e _ hh, h1, h2, ?_, ?_⟩⟩, ⟨rfl, rfl, rfl, by simp [World.setRow], fun k _ hk => setRow_other w b k _ (fun e => hk (by rw [e]))⟩⟩⟩
    · simp; omega
    · simp; omega
    · rw [← h4]
      simp only [Nat.mul_one, List.take_zero, List.nil_append, Nat.zero_add, List.toList_toArray]
      rw [List.take_append, List.take_of_length_le hcs, List.drop_take]
/-- at the operation: n elements of xs into a row of the call's own that has m of them -/
theorem wpList_copy_row {P : Program} {w : World} {ops : Array Oper} {rest : List Oper} {o : Oper} {a : Act} {Q : Exit → Act → World → Prop} (hgd : o.guard = none) (d s : Operand) (T e : TypeId)
    (ho : o.op = .call { callee := .builtin .copy, args := #[d, s], argTypes := #[T, T] }) (hu : P.underlying T = some (.slice e)) (hsz : (P.info? e).map (·.size) = some 1)
    (dp : Option Addr) (m cap : Nat) (sp : Option Addr) (n sCap : Nat) (hd : a.eval d = .slice dp m cap) (hs : a.eval s = .slice sp n sCap) (hnm : n ≤ m)
    (base : Nat) (ds : List Value) (hown : w.ownsRow base e 1 (.slice dp m cap) m ds) (B : Nat) (cs : List Value) (hr : Reads w B 1 sp n cs) (h1 : ∀ v ∈ cs, v.oneCell' = true)
    (h : ∀ w' j, w'.ownsRow base e 1 (.slice dp m cap) m (cs ++ ds.drop n) → w.grownBy w' (Value.slice dp m cap).ownBlock → wpList P ops Q rest (a.put o.dst (goInt j)) w') : wpList P ops Q (o :: rest) a w := by
  have hl : cs.length = n := by have := hr.1; omega
  by_cases h0 : n = 0
  · subst h0
    obtain rfl : cs = [] := List.eq_nil_of_length_eq_zero hl
    refine wpList_copy_nothing hgd d s T T ho e hu hsz dp sp m cap 0 sCap hd hs (by simp) ?_
    exact h w 0 (by simpa using hown) (World.grownBy.refl _ _)
  · obtain ⟨g, cap', e1, _⟩ := own_slot hown (by omega)
    injection e1 with e1 e2 e3
    subst e1 e3
    obtain ⟨ad, rfl, _, hc⟩ := hr.2 (by omega)
    obtain ⟨cur, hh, hcur, hall⟩ := own_setRow hown
    obtain ⟨k1, k2⟩ := hall cs (by omega)
    refine wpList_copy_own hgd d s T T ho e hu hsz g 0 m cap ad n sCap hd hs cur e hh cs (by rw [hl]; exact (Nat.min_eq_left hnm).symm) hc (by omega) h1 ?_
    exact h _ _ (by rw [← hl]; exact k1) k2
/-- rows made by two rules: below j by f, from j on by g -/
def rowIf (f g : Nat → Int) (L j : Nat) : List Int := (List.range L).map fun i => if i < j then f i else g i
theorem rowIf_length {f g : Nat → Int} {L j : Nat} : (rowIf f g L j).length = L := by simp [rowIf]
theorem rowIf_el {f g : Nat → Int} {L j i : Nat} (hi : i < L) : elOf (rowIf f g L j) i = if i < j then f i else g i := by
  rw [elOf_lt (by rw [rowIf_length]; exact hi)]; simp [rowIf]
theorem rowIf_set {f g : Nat → Int} {L j : Nat} {y : Int} (hj : j < L) (hy : f j = y) : (rowIf f g L j).set j y = rowIf f g L (j + 1) := by
  refine ext_el (by simp [rowIf_length]) fun i hi => ?_
  rw [List.length_set, rowIf_length] at hi
  rw [elOf_set (by rw [rowIf_length]; exact hj), rowIf_el hi, rowIf_el hi]
  by_cases h : i = j
  · subst h; rw [if_pos rfl, if_pos (by omega), hy]
  · rw [if_neg h]
    by_cases h2 : i < j
    · rw [if_pos h2, if_pos (by omega)]
    · rw [if_neg h2, if_neg (by omega)]
theorem rowIf_is {f g : Nat → Int} {L j : Nat} {xs : List Int} (hl : xs.length = L) (h : ∀ i, i < L → elOf xs i = if i < j then f i else g i) : xs = rowIf f g L j := by
  refine ext_el (by rw [rowIf_length]; exact hl) fun i hi => ?_
  rw [rowIf_el (by omega)]; exact h i (by omega)
/-- the rows below k done, row k is R, the others 0 -/
def stage (Y : List (List Int)) (L k : Nat) (R : List Int) : List (List Int) := (List.range Y.length).map fun a => if a < k then rowOf Y a else if a = k then R else List.replicate L 0
theorem stage_length {Y : List (List Int)} {L k : Nat} {R : List Int} : (stage Y L k R).length = Y.length := by simp [stage]
theorem stage_row {Y : List (List Int)} {L k a : Nat} {R : List Int} (ha : a < Y.length) : rowOf (stage Y L k R) a = if a < k then rowOf Y a else if a = k then R else List.replicate L 0 := by
  simp [stage, rowOf, List.getD, ha]
theorem stage_at {Y : List (List Int)} {L k : Nat} {R : List Int} (hk : k < Y.length) : rowOf (stage Y L k R) k = R := by
  rw [stage_row hk, if_neg (by omega), if_pos rfl]
theorem stage_set {Y : List (List Int)} {L k : Nat} {R R' : List Int} (hk : k < Y.length) : (stage Y L k R).set k R' = stage Y L k R' := by
  refine ext_rows (by simp [stage_length]) fun a ha => ?_
  rw [List.length_set, stage_length] at ha
  rw [rowOf_set' (by rw [stage_length]; exact hk), stage_row ha, stage_row ha]
  by_cases h : a = k
  · subst h; rw [if_pos rfl, if_neg (by omega), if_pos rfl]
  · rw [if_neg h]
    by_cases h2 : a < k
    · rw [if_pos h2, if_pos h2]
    · rw [if_neg h2, if_neg h2, if_neg h, if_neg h]
theorem stage_start (Y : List (List Int)) (L : Nat) : stage Y L 0 (List.replicate L 0) = zeroS Y.length L := by
  refine ext_rows (by simp [stage_length, zeroS]) fun a ha => ?_
  rw [stage_length] at ha
  rw [stage_row ha, zeroS_row ha, if_neg (by omega)]
  split <;> rfl
theorem stage_next {Y : List (List Int)} {L k : Nat} : stage Y L k (rowOf Y k) = stage Y L (k + 1) (List.replicate L 0) := by
  refine ext_rows (by simp [stage_length]) fun a ha => ?_
  rw [stage_length] at ha
  rw [stage_row ha, stage_row ha]
  by_cases h1 : a < k
  · rw [if_pos h1, if_pos (by omega)]
  · rw [if_neg h1]
    by_cases h2 : a = k
    · subst h2; rw [if_pos rfl, if_pos (by omega)]
    · rw [if_neg h2, if_neg (by omega)]
      split <;> rfl
theorem stage_end {Y : List (List Int)} {L n : Nat} {R : List Int} (h : Y.length = n) : stage Y L n R = Y := by
  refine ext_rows stage_length fun a ha => ?_
  rw [stage_length] at ha
  rw [stage_row ha, if_pos (by omega)]
end Go.Proofs.Ytnhmhjhfoonakaa
