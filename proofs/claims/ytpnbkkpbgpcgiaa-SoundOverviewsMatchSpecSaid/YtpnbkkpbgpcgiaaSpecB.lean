/- The plain functions of chapter 2, continued: what is filled element by element; Resample. No program in sight. -/
import Derived.Test.YtpnbkkpbgpcgiaaSpec
set_option linter.unusedSimpArgs false
set_option linter.unusedVariables false
namespace Go.Dw
/-- the rows below t, and i elements of row t, of yss; the others are 0 -/
def partK (yss : List (List Int)) (m t i : Nat) : List (List Int) := (List.range yss.length).map fun a => if a < t then rowOf yss a else if a = t then (rowOf yss a).take i ++ List.replicate (m - i) 0 else List.replicate m 0
theorem partK_length {yss : List (List Int)} {m t i : Nat} : (partK yss m t i).length = yss.length := by simp [partK]
theorem partK_row {yss : List (List Int)} {m t i a : Nat} (ha : a < yss.length) : rowOf (partK yss m t i) a = if a < t then rowOf yss a else if a = t then (rowOf yss a).take i ++ List.replicate (m - i) 0 else List.replicate m 0 := by
  simp [partK, rowOf, List.getD, ha]
theorem partK_len {yss : List (List Int)} {m t i : Nat} (ht : t < yss.length) (hm : (rowOf yss t).length = m) (hi : i ≤ m) : (rowOf (partK yss m t i) t).length = m := by
  rw [partK_row ht, if_neg (by omega), if_pos rfl]; simp [hm]; omega
theorem partK_start (yss : List (List Int)) (m : Nat) : partK yss m 0 0 = zeroS yss.length m := by
  refine ext_rows (by simp [partK_length, zeroS]) (fun a ha => ?_)
  rw [partK_length] at ha
  rw [partK_row ha, zeroS_row ha, if_neg (by omega)]
  split <;> simp
theorem partK_next {yss : List (List Int)} {m t : Nat} (hm : ∀ a, a < yss.length → (rowOf yss a).length = m) : partK yss m t m = partK yss m (t + 1) 0 := by
  refine ext_rows (by simp [partK_length]) (fun a ha => ?_)
  rw [partK_length] at ha
  have hl := hm a ha
  rw [partK_row ha, partK_row ha]
  by_cases h1 : a < t
  · rw [if_pos h1, if_pos (by omega)]
  · rw [if_neg h1]
    by_cases h2 : a = t
    · rw [if_pos h2, if_pos (by omega), List.take_of_length_le (by omega)]; simp
    · rw [if_neg h2, if_neg (by omega)]
      split <;> simp
theorem partK_end {yss : List (List Int)} {m T : Nat} (hT : yss.length = T) : partK yss m T 0 = yss := by
  subst hT
  refine ext_rows (by simp [partK_length]) (fun a ha => ?_)
  rw [partK_length] at ha
  rw [partK_row ha, if_pos ha]
theorem partK_step {yss : List (List Int)} {m t i : Nat} (ht : t < yss.length) (hm : (rowOf yss t).length = m) (hi : i < m) :
    (partK yss m t i).set t ((rowOf (partK yss m t i) t).set i (elOf (rowOf yss t) i)) = partK yss m t (i + 1) := by
  refine ext_rows (by simp [partK_length]) (fun a ha => ?_)
  simp only [List.length_set, partK_length] at ha
  have hset : rowOf ((partK yss m t i).set t ((rowOf (partK yss m t i) t).set i (elOf (rowOf yss t) i))) a = if a = t then (rowOf (partK yss m t i) t).set i (elOf (rowOf yss t) i) else rowOf (partK yss m t i) a := by
    unfold rowOf
    by_cases h : a = t
    · subst h; simp [List.getD, partK_length, ht]
    · rw [if_neg h]; simp [List.getD, List.getElem?_set_ne (Ne.symm h)]
  rw [hset]
  by_cases h : a = t
  · subst h
    rw [if_pos rfl, partK_row ht, partK_row ht, if_neg (by omega), if_pos rfl, if_neg (by omega), if_pos rfl]
    have hi' : i < (rowOf yss a).length := by omega
    rw [take_el hi']
    have hlen : ((rowOf yss a).take i).length = i := by simp; omega
    rw [List.set_append_right _ _ (by omega), hlen, Nat.sub_self]
    have : m - i = (m - (i + 1)) + 1 := by omega
    rw [this, List.replicate_succ, List.set_cons_zero]
    simp
  · rw [if_neg h, partK_row ha, partK_row ha]
    by_cases h1 : a < t
    · rw [if_pos h1, if_pos h1]
    · rw [if_neg h1, if_neg h1, if_neg h, if_neg h]
theorem partK_set {yss : List (List Int)} {m t i : Nat} {y : Int} (ht : t < yss.length) (hm : (rowOf yss t).length = m) (hi : i < m) (hy : elOf (rowOf yss t) i = y) :
    (partK yss m t i).set t ((rowOf (partK yss m t i) t).set i y) = partK yss m t (i + 1) := by subst hy; exact partK_step ht hm hi
/-- rows made by a rule -/
def genS (g : List Int → Nat → Int) (m : Nat) (xss : List (List Int)) : List (List Int) := xss.map fun xs => (List.range m).map (g xs)
theorem genS_length {g : List Int → Nat → Int} {m : Nat} {xss : List (List Int)} : (genS g m xss).length = xss.length := by simp [genS]
theorem genS_row {g : List Int → Nat → Int} {m : Nat} {xss : List (List Int)} {k : Nat} (hk : k < xss.length) : rowOf (genS g m xss) k = (List.range m).map (g (rowOf xss k)) := by
  simp [genS, rowOf, List.getD, hk]
theorem genS_len {g : List Int → Nat → Int} {m : Nat} {xss : List (List Int)} {k : Nat} (hk : k < xss.length) : (rowOf (genS g m xss) k).length = m := by rw [genS_row hk]; simp
theorem genS_el {g : List Int → Nat → Int} {m : Nat} {xss : List (List Int)} {k i : Nat} (hk : k < xss.length) (hi : i < m) : elOf (rowOf (genS g m xss) k) i = g (rowOf xss k) i := by
  rw [genS_row hk]; simp [elOf, List.getD, hi]
theorem rateB_yes {a : Int} (h : rateB a = true) : 1 ≤ a ∧ a ≤ 1000000 := by simpa [rateB] using h
/-- Resample: the length, an element, all -/
def rsN (m : Nat) (r q : Int) : Int := (m * q + r - 1) / r
def rsV (r q : Int) (xs : List Int) (k : Nat) : Int :=
  let i := ((k : Int) * r / q).toNat
  if i + 1 < xs.length then nearI (elOf xs i * q + ((k : Int) * r % q) * (elOf xs (i + 1) - elOf xs i)) q else elOf xs i
def rsS (r : Int) (xss : List (List Int)) (q : Int) : Int × List (List Int) × Int :=
  if chkS r xss ≠ 0 then (0, [], chkS r xss) else if rateB q = false then (0, [], 1) else if 100000 < rsN (len0 xss) r q then (0, [], 2) else (q, genS (rsV r q) (rsN (len0 xss) r q).toNat xss, 0)
theorem rs_bd {m : Nat} {r q : Int} (hm : m ≤ 100000) (hr : 1 ≤ r) (hr2 : r ≤ 1000000) (hq : 1 ≤ q) (hq2 : q ≤ 1000000) : 0 ≤ (m : Int) * q ∧ (m : Int) * q ≤ 100000000000 ∧ 0 ≤ rsN m r q ∧ rsN m r q ≤ 100001000000 := by
  have h1 : 0 ≤ (m : Int) * q := Int.mul_nonneg (by omega) (by omega)
  have h2 : (m : Int) * q ≤ 100000 * 1000000 := Int.mul_le_mul (by omega) hq2 (by omega) (by omega)
  refine ⟨h1, by omega, Int.ediv_nonneg (by omega) (by omega), ?_⟩
  have := Int.ediv_le_self (a := (m : Int) * q + r - 1) r (by omega)
  unfold rsN
  omega
/-- the place of element k of the new sound -/
theorem rs_at {m k : Nat} {r q : Int} (hr : 1 ≤ r) (hr2 : r ≤ 1000000) (hq : 1 ≤ q) (hk : (k : Int) < rsN m r q) (hN : rsN m r q ≤ 100000) :
    0 ≤ (k : Int) * r ∧ (k : Int) * r ≤ 100000000000 ∧ 0 ≤ (k : Int) * r / q ∧ (k : Int) * r / q < m ∧ 0 ≤ (k : Int) * r % q ∧ (k : Int) * r % q < q := by
  have h1 : 0 ≤ (k : Int) * r := Int.mul_nonneg (by omega) (by omega)
  have h2 : (k : Int) * r ≤ 100000 * 1000000 := Int.mul_le_mul (by omega) hr2 (by omega) (by omega)
  refine ⟨h1, by omega, Int.ediv_nonneg h1 (by omega), ?_, Int.emod_nonneg _ (by omega), Int.emod_lt_of_pos _ (by omega)⟩
  refine Int.ediv_lt_of_lt_mul (by omega) ?_
  have h3 : ((k : Int) + 1) ≤ rsN m r q := by omega
  have h4 : ((k : Int) + 1) * r ≤ (m : Int) * q + r - 1 := by
    unfold rsN at h3
    exact (Int.le_ediv_iff_mul_le (by omega)).1 h3
  rw [Int.add_mul] at h4
  omega
theorem near_self {x q : Int} (hq : 1 ≤ q) : nearI (x * q) q = x := by
  have hp : ∀ y : Int, 0 ≤ y → nearP (y * q) q = y := fun y hy => by
    rw [nearP_split (Int.mul_nonneg hy (by omega)) (by omega), Int.mul_emod_left, Int.mul_ediv_cancel _ (by omega), if_neg (by omega)]
  unfold nearI
  by_cases h : x < 0
  · have : x * q < 0 := Int.mul_neg_of_neg_of_pos h (by omega)
    rw [if_pos this, ← Int.neg_mul, hp _ (by omega)]; omega
  · have : 0 ≤ x * q := Int.mul_nonneg (by omega) (by omega)
    rw [if_neg (by omega), hp _ (by omega)]
/-- bounds of the sum that is rounded -/
theorem rs_sum {x y f q : Int} (hx1 : -8388608 ≤ x) (hx2 : x ≤ 8388607) (hy1 : -8388608 ≤ y) (hy2 : y ≤ 8388607) (hf : 0 ≤ f) (hf2 : f < q) (hq : 1 ≤ q) (hq2 : q ≤ 1000000) :
    -8388608000000 ≤ x * q ∧ x * q ≤ 8388608000000 ∧ -16777216000000 ≤ f * (y - x) ∧ f * (y - x) ≤ 16777216000000 := by
  have b : ∀ u v U V : Int, -U ≤ u → u ≤ U → 0 ≤ v → v ≤ V → 0 ≤ U → -(U * V) ≤ u * v ∧ u * v ≤ U * V := fun u v U V h1 h2 h3 h4 h5 => by
    have e1 : u * v ≤ U * v := Int.mul_le_mul_of_nonneg_right h2 h3
    have e2 : -U * v ≤ u * v := Int.mul_le_mul_of_nonneg_right h1 h3
    have e3 : U * v ≤ U * V := Int.mul_le_mul_of_nonneg_left h4 h5
    rw [Int.neg_mul] at e2
    omega
  have h1 := b x q 8388608 1000000 (by omega) (by omega) (by omega) (by omega) (by omega)
  have h2 := b (y - x) f 16777216 1000000 (by omega) (by omega) (by omega) (by omega) (by omega)
  rw [Int.mul_comm (y - x) f] at h2
  omega
end Go.Dw
