/- The plain law of Overview and Coarser: bins put together are those of greater blocks. -/
import Derived.Test.YtpnbkkpbgpcgiaaCo2
set_option linter.unusedSimpArgs false
set_option linter.unusedVariables false
namespace Go.Proofs.Ytpnbkkpbgpcgiaa
open Go.RowKit Go.Dw
/-- Coarser, where no sum is too great -/
def coT (q : Nat) (l : List Bn) : Nat → List Bn
  | 0 => []
  | i + 1 => if i % q = 0 then coT q l i ++ [bnOf l i] else (coT q l i).set ((coT q l i).length - 1) (jnB (bnOf (coT q l i) ((coT q l i).length - 1)) (bnOf l i))
theorem bnOf_append_left {l m : List Bn} {k : Nat} (hk : k < l.length) : bnOf (l ++ m) k = bnOf l k := by simp [bnOf, List.getD, List.getElem?_append_left hk]
theorem bnOf_last (l : List Bn) (b : Bn) : bnOf (l ++ [b]) l.length = b := by simp [bnOf, List.getD]
theorem bnOf_set_ne {l : List Bn} {k j : Nat} {b : Bn} (h : j ≠ k) : bnOf (l.set j b) k = bnOf l k := by simp [bnOf, List.getD, List.getElem?_set_ne h]
theorem bnOf_set_eq {l : List Bn} {k : Nat} {b : Bn} (h : k < l.length) : bnOf (l.set k b) k = b := by simp [bnOf, List.getD, h]
theorem coT_congr {q : Nat} {l m : List Bn} : ∀ {i : Nat}, (∀ k, k < i → bnOf l k = bnOf m k) → coT q l i = coT q m i
  | 0, _ => rfl
  | i + 1, h => by
    have ih := coT_congr (q := q) (l := l) (m := m) (i := i) (fun k hk => h k (by omega))
    unfold coT
    rw [ih, h i (by omega)]
theorem coT_pos {q : Nat} {l : List Bn} : ∀ {i : Nat}, 0 < i → 0 < (coT q l i).length
  | i + 1, _ => by
    unfold coT
    by_cases h : i % q = 0
    · rw [if_pos h]; simp
    · rw [if_neg h, List.length_set]
      exact coT_pos (by rcases Nat.eq_zero_or_pos i with h0 | h0; (subst h0; simp at h); exact h0)
theorem jnB_assoc (a b c : Bn) : jnB (jnB a b) c = jnB a (jnB b c) := by
  unfold jnB
  refine Prod.ext ?_ (Prod.ext ?_ ?_)
  · dsimp only; omega
  · dsimp only; omega
  · dsimp only; omega
theorem ovK_len {b : Nat} {row : List Int} (hb : 0 < b) : ∀ {i : Nat}, (ovK b row i).length = (i + b - 1) / b
  | 0 => by
    show 0 = _
    rw [Nat.zero_add, Nat.div_eq_of_lt (by omega)]
  | i + 1 => by
    show (ovStep b (ovK b row i) i (elOf row i)).length = _
    have ih := ovK_len (row := row) hb (i := i)
    have e1 := Nat.div_add_mod i b
    have e2 := Nat.mod_lt i hb
    unfold ovStep
    by_cases h : i % b = 0
    · rw [if_pos h, List.length_append, ih]
      have h1 : (i + b - 1) / b = i / b := by
        rw [show i + b - 1 = (b - 1) + b * (i / b) by omega, Nat.add_mul_div_left _ _ hb, Nat.div_eq_of_lt (by omega)]; omega
      have h2 : (i + 1 + b - 1) / b = i / b + 1 := by
        rw [show i + 1 + b - 1 = 0 + b * (i / b + 1) by rw [Nat.mul_add]; omega, Nat.add_mul_div_left _ _ hb]; simp
      rw [h1, h2]; simp
    · rw [if_neg h, List.length_set, ih]
      have h1 : (i + b - 1) / b = i / b + 1 := by
        rw [show i + b - 1 = (i % b - 1) + b * (i / b + 1) by rw [Nat.mul_add]; omega, Nat.add_mul_div_left _ _ hb, Nat.div_eq_of_lt (by omega)]; omega
      have h2 : (i + 1 + b - 1) / b = i / b + 1 := by
        rw [show i + 1 + b - 1 = (i % b) + b * (i / b + 1) by rw [Nat.mul_add]; omega, Nat.add_mul_div_left _ _ hb, Nat.div_eq_of_lt e2]; omega
      rw [h1, h2]
theorem mod_mul {i b q : Nat} (hb : 0 < b) (h : i % b = 0) : (i % (b * q) = 0) ↔ ((i / b) % q = 0) := by
  obtain ⟨j, rfl⟩ : ∃ j, i = b * j := ⟨i / b, by have := Nat.div_add_mod i b; omega⟩
  rw [Nat.mul_div_cancel_left _ hb, Nat.mul_mod_mul_left]
  constructor
  · intro h; rcases Nat.mul_eq_zero.1 h with h | h; omega; exact h
  · intro h; rw [h, Nat.mul_zero]
/-- bins put together are those of greater blocks -/
theorem co_ov {b q : Nat} {row : List Int} (hb : 0 < b) : ∀ {i : Nat}, coT q (ovK b row i) (ovK b row i).length = ovK (b * q) row i
  | 0 => rfl
  | i + 1 => by
    have ih := co_ov (q := q) (row := row) hb (i := i)
    have hs : ovK b row (i + 1) = ovStep b (ovK b row i) i (elOf row i) := rfl
    have hS : ovK (b * q) row (i + 1) = ovStep (b * q) (ovK (b * q) row i) i (elOf row i) := rfl
    rw [hs, hS, ← ih]
    generalize elOf row i = x
    have hL := ovK_len (row := row) hb (i := i)
    by_cases h : i % b = 0
    · have hj : (ovK b row i).length = i / b := by
        rw [hL]
        have e1 := Nat.div_add_mod i b
        rw [show i + b - 1 = (b - 1) + b * (i / b) by omega, Nat.add_mul_div_left _ _ hb, Nat.div_eq_of_lt (by omega)]; omega
      generalize ovK b row i = acc at *
      have e1 : ovStep b acc i x = acc ++ [(x, x, x * x)] := if_pos h
      rw [e1]
      have e2 : (acc ++ [(x, x, x * x)]).length = acc.length + 1 := by simp
      rw [e2]
      show (if acc.length % q = 0 then _ else _) = _
      have e3 : coT q (acc ++ [(x, x, x * x)]) acc.length = coT q acc acc.length := coT_congr fun k hk => bnOf_append_left hk
      rw [e3, bnOf_last]
      unfold ovStep
      by_cases hq : (i / b) % q = 0
      · rw [if_pos (by rw [hj]; exact hq), if_pos ((mod_mul hb h).2 hq)]
      · rw [if_neg (by rw [hj]; exact hq), if_neg (fun h2 => hq ((mod_mul hb h).1 h2))]
    · have hi : 0 < i := by rcases Nat.eq_zero_or_pos i with h0 | h0; (subst h0; simp at h); exact h0
      have hpos := ovK_some (b := b) (row := row) hi
      have hm : ¬ i % (b * q) = 0 := fun h2 => h (by
        have := Nat.mod_mul_right_mod i b q
        rw [h2] at this; simpa using this.symm)
      generalize ovK b row i = acc at *
      obtain ⟨m, hm9⟩ : ∃ m, acc.length = m + 1 := ⟨acc.length - 1, by omega⟩
      have e1 : ovStep b acc i x = acc.set m (jnB (bnOf acc m) (x, x, x * x)) := by unfold ovStep; rw [if_neg h, hm9]; rfl
      have e5 : ovStep (b * q) (coT q acc acc.length) i x = (coT q acc acc.length).set ((coT q acc acc.length).length - 1) (jnB (bnOf (coT q acc acc.length) ((coT q acc acc.length).length - 1)) (x, x, x * x)) := by unfold ovStep; rw [if_neg hm]
      rw [e5, e1, List.length_set, hm9]
      have e3 : coT q (acc.set m (jnB (bnOf acc m) (x, x, x * x))) m = coT q acc m := coT_congr fun k hk => bnOf_set_ne (by omega)
      have e4 : bnOf (acc.set m (jnB (bnOf acc m) (x, x, x * x))) m = jnB (bnOf acc m) (x, x, x * x) := bnOf_set_eq (by omega)
      show (if m % q = 0 then _ else _) = _
      rw [e3, e4]
      have e6 : coT q acc (m + 1) = if m % q = 0 then coT q acc m ++ [bnOf acc m] else (coT q acc m).set ((coT q acc m).length - 1) (jnB (bnOf (coT q acc m) ((coT q acc m).length - 1)) (bnOf acc m)) := rfl
      rw [e6]
      by_cases hq : m % q = 0
      · rw [if_pos hq, if_pos hq]
        generalize coT q acc m = C
        have e7 : (C ++ [bnOf acc m]).length - 1 = C.length := by simp
        rw [e7, bnOf_last]
        simp
      · rw [if_neg hq, if_neg hq]
        have hp := coT_pos (q := q) (l := acc) (i := m) (by rcases Nat.eq_zero_or_pos m with h0 | h0; (subst h0; simp at hq); exact h0)
        generalize coT q acc m = C at *
        rw [List.length_set, bnOf_set_eq (by omega), List.set_set, jnB_assoc]
def sumP (l : List Bn) : Nat → Int
  | 0 => 0
  | i + 1 => sumP l i + (bnOf l i).2.2
theorem sumP_congr {l m : List Bn} : ∀ {i : Nat}, (∀ k, k < i → bnOf l k = bnOf m k) → sumP l i = sumP m i
  | 0, _ => rfl
  | i + 1, h => by unfold sumP; rw [sumP_congr (i := i) (fun k hk => h k (by omega)), h i (by omega)]
theorem sumP_mono {l : List Bn} (h : ∀ c ∈ l, 0 ≤ c.2.2) : ∀ {i : Nat}, i ≤ l.length → ∀ j, j ≤ i → sumP l j ≤ sumP l i
  | 0, _, j, hj => by (obtain rfl : j = 0 := by omega); exact Int.le_refl _
  | i + 1, hi, j, hj => by
    by_cases hj2 : j = i + 1
    · subst hj2; exact Int.le_refl _
    · have h1 := sumP_mono h (i := i) (by omega) j (by omega)
      have h2 := h _ (bnOf_mem (bs := l) (k := i) (by omega))
      show sumP l j ≤ sumP l i + (bnOf l i).2.2
      omega
theorem coT_rng {q : Nat} {l : List Bn} (h : ∀ c ∈ l, 0 ≤ c.2.2) : ∀ {i : Nat}, i ≤ l.length → ∀ c ∈ coT q l i, 0 ≤ c.2.2 ∧ c.2.2 ≤ sumP l i
  | 0, _, c, hc => by cases hc
  | i + 1, hi, c, hc => by
    have ih := coT_rng (q := q) h (i := i) (by omega)
    have h0 := h _ (bnOf_mem (bs := l) (k := i) (by omega))
    have hs : sumP l (i + 1) = sumP l i + (bnOf l i).2.2 := rfl
    have hm := sumP_mono h (i := i) (by omega) 0 (by omega)
    have hz : sumP l 0 = 0 := rfl
    rw [hs]
    unfold coT at hc
    split at hc
    · rcases List.mem_append.1 hc with hc | hc
      · have := ih c hc; omega
      · obtain rfl : c = bnOf l i := by simpa using hc
        omega
    · rename_i hq
      have hp := coT_pos (q := q) (l := l) (i := i) (by rcases Nat.eq_zero_or_pos i with h0 | h0; (subst h0; simp at hq); exact h0)
      rcases List.mem_or_eq_of_mem_set hc with hc | hc
      · have := ih c hc; omega
      · have := ih _ (bnOf_mem (bs := coT q l i) (k := (coT q l i).length - 1) (by omega))
        subst hc
        unfold jnB; dsimp only
        omega
theorem coK_coT {q : Nat} {l : List Bn} (h : ∀ c ∈ l, 0 ≤ c.2.2) (hS : sumP l l.length ≤ 9223372036854775807) : ∀ {i : Nat}, i ≤ l.length → coK q l i = some (coT q l i)
  | 0, _ => rfl
  | i + 1, hi => by
    show (coK q l i).bind _ = _
    rw [coK_coT h hS (i := i) (by omega)]
    show coStep q (coT q l i) i (bnOf l i) = some (if i % q = 0 then _ else _)
    unfold coStep
    by_cases hq : i % q = 0
    · rw [if_pos hq, if_pos hq]
    · rw [if_neg hq, if_neg hq, if_neg]
      have hp := coT_pos (q := q) (l := l) (i := i) (by rcases Nat.eq_zero_or_pos i with h0 | h0; (subst h0; simp at hq); exact h0)
      have h1 := (coT_rng (q := q) h (i := i) (by omega) _ (bnOf_mem (bs := coT q l i) (k := (coT q l i).length - 1) (by omega))).2
      have h2 := sumP_mono h (i := l.length) (Nat.le_refl _) (i + 1) hi
      have hs : sumP l (i + 1) = sumP l i + (bnOf l i).2.2 := rfl
      omega
theorem ovK_sum {b : Nat} {row : List Int} (hrow : ∀ i, i < row.length → -8388608 ≤ elOf row i ∧ elOf row i ≤ 8388607) : ∀ {i : Nat}, i ≤ row.length → sumP (ovK b row i) (ovK b row i).length ≤ i * 70368744177664
  | 0, _ => Int.le_refl _
  | i + 1, hi => by
    have ih := ovK_sum (b := b) hrow (i := i) (by omega)
    obtain ⟨x1, x2⟩ := hrow i (by omega)
    obtain ⟨s1, s2⟩ := sq_smp x1 x2
    show sumP (ovStep b (ovK b row i) i (elOf row i)) (ovStep b (ovK b row i) i (elOf row i)).length ≤ _
    generalize elOf row i = x at *
    by_cases h : i % b = 0
    · generalize ovK b row i = acc at *
      have e1 : ovStep b acc i x = acc ++ [(x, x, x * x)] := if_pos h
      rw [e1, List.length_append]
      show sumP (acc ++ [(x, x, x * x)]) acc.length + (bnOf (acc ++ [(x, x, x * x)]) acc.length).2.2 ≤ _
      rw [bnOf_last, sumP_congr (m := acc) fun k hk => bnOf_append_left hk]
      dsimp only; omega
    · have hi0 : 0 < i := by rcases Nat.eq_zero_or_pos i with h0 | h0; (subst h0; simp at h); exact h0
      have hpos := ovK_some (b := b) (row := row) hi0
      generalize ovK b row i = acc at *
      obtain ⟨m, hm9⟩ : ∃ m, acc.length = m + 1 := ⟨acc.length - 1, by omega⟩
      have e1 : ovStep b acc i x = acc.set m (jnB (bnOf acc m) (x, x, x * x)) := by unfold ovStep; rw [if_neg h, hm9]; rfl
      rw [e1, List.length_set, hm9]
      rw [hm9] at ih
      have e2 : sumP acc (m + 1) = sumP acc m + (bnOf acc m).2.2 := rfl
      show sumP (acc.set m (jnB (bnOf acc m) (x, x, x * x))) m + (bnOf (acc.set m (jnB (bnOf acc m) (x, x, x * x))) m).2.2 ≤ _
      rw [bnOf_set_eq (by omega), sumP_congr (m := acc) fun k hk => bnOf_set_ne (by omega)]
      unfold jnB; dsimp only; omega
theorem coChk_ok {i : Nat} : ∀ {l : List Bn}, (∀ c ∈ l, OkB i c) → coChk l = 0
  | [], _ => rfl
  | b :: t, h => by
    have hb := h b (by simp)
    unfold coChk
    rw [if_neg (by have := hb.l2; omega), if_neg, coChk_ok fun c hc => h c (by simp [hc])]
    have h1 := smpB_mk hb.l1 (by have := hb.l2; have := hb.l3; omega)
    have h2 := smpB_mk (show -8388608 ≤ b.2.1 by have := hb.l1; have := hb.l2; omega) hb.l3
    rw [h1, h2]
    have := hb.p0
    simp; omega
theorem ovK_okL {r : Int} {xss : List (List Int)} {t b : Nat} (hok : OkS r xss) (ht : t < xss.length) : OkL (ovK b (rowOf xss t) (len0 xss)) := by
  have hr := hok.row ht
  refine ⟨fun c hc => ?_⟩
  have h := (ovK_ok (b := b) (row := rowOf xss t) (fun i hi => hok.el ht (by rw [hr.1] at hi; exact hi)) (i := len0 xss) (by rw [hr.1]; exact Nat.le_refl _) c hc).p1
  have h3 : (len0 xss : Int) * 70368744177664 ≤ 100000 * 70368744177664 := Int.mul_le_mul (by have := hok.long; omega) (by omega) (by omega) (by omega)
  omega
theorem coS_ov {r : Int} {xss : List (List Int)} {t b : Nat} {q : Int} (hok : OkS r xss) (ht : t < xss.length) (hb : 0 < b) (hq : ¬ (q < 1 ∨ 100000 < q)) : coS (ovK b (rowOf xss t) (len0 xss)) q = (ovK (b * q.toNat) (rowOf xss t) (len0 xss), 0) := by
  have hr := hok.row ht
  have hrow : ∀ i, i < (rowOf xss t).length → -8388608 ≤ elOf (rowOf xss t) i ∧ elOf (rowOf xss t) i ≤ 8388607 := fun i hi => hok.el ht (by rw [hr.1] at hi; exact hi)
  have hB := ovK_ok (b := b) hrow (i := len0 xss) (by rw [hr.1]; exact Nat.le_refl _)
  have hs := ovK_sum (b := b) hrow (i := len0 xss) (by rw [hr.1]; exact Nat.le_refl _)
  have h3 : (len0 xss : Int) * 70368744177664 ≤ 100000 * 70368744177664 := Int.mul_le_mul (by have := hok.long; omega) (by omega) (by omega) (by omega)
  unfold coS
  rw [if_neg hq, if_neg (by rw [coChk_ok hB]; simp), coK_coT (fun c hc => (hB c hc).p0) (by omega) (Nat.le_refl _), co_ov hb]
end Go.Proofs.Ytpnbkkpbgpcgiaa
