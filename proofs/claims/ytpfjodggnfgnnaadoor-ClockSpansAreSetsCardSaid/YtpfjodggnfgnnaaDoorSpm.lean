/- The ends of spans, merged and swept: the plain law. -/
import Derived.Test.YtpfjodggnfgnnaaDoorSpl
set_option linter.unusedSimpArgs false
set_option linter.unusedVariables false
namespace Go.Proofs.YtpfjodggnfgnnaaDoor
def intAt (l : List Int) (k : Nat) : Int := l.getD k 0
theorem int_drop {l : List Int} {k : Nat} (hk : k < l.length) : l.drop k = intAt l k :: l.drop (k + 1) := by
  rw [List.drop_eq_getElem_cons hk]; simp [intAt, List.getD, List.getElem?_eq_getElem hk]
theorem int_take {l : List Int} {k : Nat} (hk : k < l.length) : l.take (k + 1) = l.take k ++ [intAt l k] := by
  rw [List.take_succ_eq_append_getElem hk]; simp [intAt, List.getD, List.getElem?_eq_getElem hk]
theorem int_mem {l : List Int} {k : Nat} (hk : k < l.length) : intAt l k ∈ l := by
  simp [intAt, List.getD, List.getElem?_eq_getElem hk]
theorem int_lt {l : List Int} (h : l.Pairwise (· < ·)) {j k : Nat} (hj : j < k) (hk : k < l.length) : intAt l j < intAt l k := by
  have := List.pairwise_iff_getElem.1 h j k (by omega) hk hj
  simpa [intAt, List.getD, List.getElem?_eq_getElem hk, List.getElem?_eq_getElem (show j < l.length by omega)] using this
theorem flat_take : ∀ (l : List Pr) (k : Nat), flatE (l.take k) = (flatE l).take (2 * k)
  | [], k => by simp [flatE]
  | p :: t, 0 => by simp [flatE]
  | p :: t, k + 1 => by
    rw [List.take_succ_cons, flatE_cons, flatE_cons, flat_take t k, show 2 * (k + 1) = (2 * k) + 1 + 1 by omega, List.take_succ_cons, List.take_succ_cons]
theorem flat_even : ∀ {l : List Pr} {k : Nat}, k < l.length → intAt (flatE l) (2 * k) = (prOf l k).1
  | p :: t, 0, _ => by simp [flatE_cons, intAt, prOf]
  | p :: t, k + 1, h => by
    have := flat_even (l := t) (k := k) (by simpa using h)
    rw [pr_cons_succ, ← this, flatE_cons, show 2 * (k + 1) = 2 * k + 1 + 1 by omega]
    simp [intAt]
theorem flat_odd : ∀ {l : List Pr} {k : Nat}, k < l.length → intAt (flatE l) (2 * k + 1) = (prOf l k).2
  | p :: t, 0, _ => by simp [flatE_cons, intAt, prOf]
  | p :: t, k + 1, h => by
    have := flat_odd (l := t) (k := k) (by simpa using h)
    rw [pr_cons_succ, ← this, flatE_cons, show 2 * (k + 1) + 1 = 2 * k + 1 + 1 + 1 by omega]
    simp [intAt]
/-- the ends that were merged so far -/
structure Mrg (x y : List Int) (i k : Nat) (acc : List Int) : Prop where
  inc : acc.Pairwise (· < ·)
  mem : ∀ z, z ∈ acc ↔ z ∈ x.take i ∨ z ∈ y.take k
  low1 : ∀ e ∈ acc, ∀ f ∈ x.drop i, e ≤ f
  low2 : ∀ e ∈ acc, ∀ f ∈ y.drop k, e ≤ f
theorem Mrg.start (x y : List Int) : Mrg x y 0 0 [] := ⟨List.Pairwise.nil, fun z => by simp, (fun e h => by cases h), (fun e h => by cases h)⟩
theorem Mrg.symm {x y : List Int} {i k : Nat} {acc : List Int} (h : Mrg x y i k acc) : Mrg y x k i acc := ⟨h.inc, fun z => by rw [h.mem z, Or.comm], h.low2, h.low1⟩
theorem Mrg.len {x y : List Int} {i k : Nat} {acc : List Int} (h : Mrg x y i k acc) (hi : i ≤ x.length) (hk : k ≤ y.length) : acc.length ≤ i + k := by
  have := inc_len acc (x.take i ++ y.take k) h.inc (fun z hz => by rw [List.mem_append]; exact (h.mem z).1 hz)
  rw [List.length_append, List.length_take, List.length_take] at this
  omega
/-- the next end is new -/
theorem Mrg.push {x y : List Int} {i k : Nat} {acc : List Int} (h : Mrg x y i k acc) (hx : x.Pairwise (· < ·)) (hy : y.Pairwise (· < ·)) (hi : i < x.length) (hn : ∀ f ∈ y.drop k, intAt x i ≤ f) (hl : ∀ m, acc.length = m + 1 → intAt acc m ≠ intAt x i) : Mrg x y (i + 1) k (acc ++ [intAt x i]) := by
  have hd := int_drop hi
  have hlt : ∀ f ∈ x.drop (i + 1), intAt x i < f := by
    have := List.Pairwise.sublist (List.drop_sublist i x) hx
    rw [hd, List.pairwise_cons] at this
    exact this.1
  have hle : ∀ e ∈ acc, e ≤ intAt x i := fun e he => h.low1 e he _ (by rw [hd]; simp)
  have hne : ∀ e ∈ acc, e < intAt x i := fun e he => by
    rcases List.eq_nil_or_concat acc with rfl | ⟨s, z, rfl⟩
    · cases he
    · have hz := hl s.length (by simp)
      have hzz : intAt (s.concat z) s.length = z := by simp [intAt, List.getD]
      rw [hzz] at hz
      have hzle := hle z (by simp)
      have hin := h.inc
      rw [List.concat_eq_append] at he hin
      rw [List.pairwise_append] at hin
      rw [List.mem_append] at he
      rcases he with he | he
      · have := hin.2.2 e he z (by simp); omega
      · simp at he; subst he; omega
  refine ⟨?_, fun z => ?_, ?_, ?_⟩
  · rw [List.pairwise_append]
    exact ⟨h.inc, by simp, fun e he b hb => by simp at hb; subst hb; exact hne e he⟩
  · rw [List.mem_append, h.mem z, int_take hi, List.mem_append]
    constructor
    · rintro ((a | a) | a)
      · exact .inl (.inl a)
      · exact .inr a
      · exact .inl (.inr a)
    · rintro ((a | a) | a)
      · exact .inl (.inl a)
      · exact .inr a
      · exact .inl (.inr a)
  · intro e he f hf
    rw [List.mem_append] at he
    have := hlt f hf
    rcases he with he | he
    · have := hle e he; omega
    · simp at he; subst he; omega
  · intro e he f hf
    rw [List.mem_append] at he
    rcases he with he | he
    · exact h.low2 e he f hf
    · simp at he; subst he; exact hn f hf
/-- the next end is there -/
theorem Mrg.skip {x y : List Int} {i k m : Nat} {acc : List Int} (h : Mrg x y i k acc) (hi : i < x.length) (hm : acc.length = m + 1) (hl : intAt acc m = intAt x i) : Mrg x y (i + 1) k acc := by
  have hd := int_drop hi
  refine ⟨h.inc, fun z => ?_, fun e he f hf => h.low1 e he f (by rw [hd]; exact List.mem_cons_of_mem _ hf), h.low2⟩
  rw [h.mem z, int_take hi, List.mem_append]
  constructor
  · rintro (a | a)
    · exact .inl (.inl a)
    · exact .inr a
  · rintro ((a | a) | a)
    · exact .inl a
    · simp at a
      exact (h.mem z).1 (by rw [a, ← hl]; exact int_mem (by omega))
    · exact .inr a
theorem Mrg.done {a b : List Pr} {i k : Nat} {acc : List Int} (h : Mrg (flatE a) (flatE b) i k acc) (hi : (flatE a).length ≤ i) (hk : (flatE b).length ≤ k) : acc = endsS a b := by
  refine inc_ext _ _ h.inc (endsL_lt _) (fun z => ?_)
  rw [h.mem z, List.take_of_length_le hi, List.take_of_length_le hk]
  show _ ↔ z ∈ endsL _
  rw [endsL_mem, List.mem_append]
theorem inc_drop_ge {x : List Int} (hx : x.Pairwise (· < ·)) {k : Nat} (hk : k < x.length) : ∀ f ∈ x.drop k, intAt x k ≤ f := by
  intro f hf
  rw [int_drop hk, List.mem_cons] at hf
  rcases hf with rfl | hf
  · omega
  · have := List.Pairwise.sublist (List.drop_sublist k x) hx
    rw [int_drop hk, List.pairwise_cons] at this
    have := this.1 f hf; omega
theorem canon_flat {l : List Pr} (h : Canon l) : (flatE l).Pairwise (· < ·) := h
/-- one step of the sweep -/
theorem swp_step (f : Int → Bool) {E : List Int} {k : Nat} {acc : List Pr} (hk : k + 1 < E.length) : swp f (E.drop k) acc = swp f (E.drop (k + 1)) (if f (intAt E k) = true then appS acc (intAt E k, intAt E (k + 1)) else acc) := by
  rw [int_drop (show k < E.length by omega), int_drop hk]
  rfl
theorem swp_end (f : Int → Bool) {E : List Int} {k : Nat} {acc : List Pr} (hk : E.length ≤ k + 1) : swp f (E.drop k) acc = acc := by
  match h : E.drop k with
  | [] => rfl
  | [_] => rfl
  | _ :: _ :: _ =>
    have := congrArg List.length h
    simp at this
    omega
/-- what was swept so far lies below the next end -/
theorem app_low {acc : List Pr} {x y : Int} (he : ∀ e ∈ flatE acc, e ≤ x) (hxy : x < y) : ∀ e ∈ flatE (appS acc (x, y)), e ≤ y := by
  intro e h
  rcases List.eq_nil_or_concat acc with rfl | ⟨i, z, rfl⟩
  · rw [appS_nil, flatE_one] at h
    simp at h; omega
  · rw [List.concat_eq_append] at *
    rw [appS_snoc] at h
    have hz1 : z.1 ≤ x := he _ (by rw [flatE_app, flatE_one]; simp)
    have hz2 : z.2 ≤ x := he _ (by rw [flatE_app, flatE_one]; simp)
    have hi : ∀ e ∈ flatE i, e ≤ x := fun e h => he e (by rw [flatE_app]; exact List.mem_append_left _ h)
    split at h
    · rw [flatE_app, flatE_one, List.mem_append] at h
      rcases h with h | h
      · have := hi e h; omega
      · simp at h; omega
    · rw [flatE_app, flatE_app, flatE_one, flatE_one, List.mem_append, List.mem_append] at h
      rcases h with (h | h) | h
      · have := hi e h; omega
      · simp at h; omega
      · simp at h; omega
theorem appS_touch {acc : List Pr} {m : Nat} {x y z1 : Int} (hl : acc.length = m + 1) (hz : prOf acc m = (z1, x)) (hxy : x < y) : appS acc (x, y) = acc.set m ((prOf acc m).1, y) := by
  rw [appS_set hl hz (by omega)]
  rw [show max x y = y by omega]
theorem last_low {acc : List Pr} {m : Nat} {x z1 z2 : Int} (hl : acc.length = m + 1) (hz : prOf acc m = (z1, z2)) (he : ∀ e ∈ flatE acc, e ≤ x) : z2 ≤ x := by
  have := he _ (ends_in (pr_in (l := acc) (k := m) (by omega))).2
  rw [hz] at this
  exact this
theorem ends_len (a b : List Pr) : (endsS a b).length ≤ 2 * (a.length + b.length) := by
  have := inc_len (endsS a b) (flatE a ++ flatE b) (endsL_lt _) (fun z hz => (endsL_mem _ z).1 hz)
  rw [List.length_append, flatE_len, flatE_len] at this
  omega
theorem meas_snoc {l : List Pr} {k : Nat} (hk : k < l.length) : measS (l.take (k + 1)) = measS (l.take k) + ((prOf l k).2 - (prOf l k).1) := by
  rw [List.take_succ_eq_append_getElem hk, measS_app]
  have e : l[k] = prOf l k := by simp [prOf, List.getD, List.getElem?_eq_getElem hk]
  rw [e]; simp [measS]
theorem meas_bd {l : List Pr} (h : ∀ p ∈ l, okPr p = true) : ∀ k : Nat, k ≤ l.length → -(20000000000000 * (k : Int)) ≤ measS (l.take k) ∧ measS (l.take k) ≤ 20000000000000 * k
  | 0, _ => by simp [measS]
  | k + 1, hk => by
    have ih := meas_bd h k (by omega)
    rw [meas_snoc (by omega)]
    have := h _ (pr_in (l := l) (k := k) (by omega))
    unfold okPr at this
    rw [Bool.and_eq_true] at this
    have a := okPos_le this.1
    have b := okPos_le this.2
    omega
end Go.Proofs.YtpfjodggnfgnnaaDoor
