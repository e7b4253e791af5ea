/- The plain functions of chapter 2, continued: what is filled element by element; Resample. No program in sight. -/
import Derived.Test.YtkmcohnhanphdaaGreatDoorSpec
set_option linter.unusedSimpArgs false
set_option linter.unusedVariables false
namespace Go.Dw
/-- the rows below t, and i elements of row t, of yss; the others are 0 -/
def partK (yss : List (List Int)) (m t i : Nat) : List (List Int) := (List.range yss.length).map fun a => if a < t then rowOf yss a else if a = t then (rowOf yss a).take i ++ List.replicate (m - i) 0 else List.replicate m 0
theorem partK_length {yss : List (List Int)} {m t i : Nat} : (partK yss m t i).length = yss.length := by simp [partK]
theorem partK_row {yss : List (List Int)} {m t i a : Nat} (ha : a < yss.length) : rowOf (partK yss m t i) a = if a < t then rowOf yss a else if a = t then (rowOf yss a).take i ++ List.replicate (m - i) 0 else List.replicate m 0 := by
  simp [partK, rowOf, List.getD, ha]
theorem partK_len {yss : List (List Int)} {m t i : Nat} (ht : t < yss.length) (hm : (rowOf yss t).length = m) (hi : i ≤ m) : (rowOf (partK yss m t i) t).length = m := by
  rw [partK_row ht, if_neg (by omega), if_pos rfl]; simp [hm]; omega
theorem partK_start (yss : List (List Int)) (m : Nat) : partK yss m 0 0 = zeroS yss.length m := by
  refine ext_rows (by simp [partK_length, zeroS]) (fun a ha => ?_)
  rw [partK_length] at ha
  rw [partK_row ha, zeroS_row ha, if_neg (by omega)]
  split <;> simp
theorem partK_next {yss : List (List Int)} {m t : Nat} (hm : ∀ a, a < yss.length → (rowOf yss a).length = m) : partK yss m t m = partK yss m (t + 1) 0 := by
  refine ext_rows (by simp [partK_length]) (fun a ha => ?_)
  rw [partK_length] at ha
  have hl := hm a ha
  rw [partK_row ha, partK_row ha]
  by_cases h1 : a < t
  · rw [if_pos h1, if_pos (by omega)]
  · rw [if_neg h1]
    by_cases h2 : a = t
    · rw [if_pos h2, if_pos (by omega), List.take_of_length_le (by omega)]; simp
    · rw [if_neg h2, if_neg (by omega)]
      split <;> simp
theorem partK_end {yss : List (List Int)} {m T : Nat} (hT : yss.length = T) : partK yss m T 0 = yss := by
  subst hT
  refine ext_rows (by simp [partK_length]) (fun a ha => ?_)
  rw [partK_length] at ha
  rw [partK_row ha, if_pos ha]
theorem partK_step {yss : List (List Int)} {m t i : Nat} (ht : t < yss.length) (hm : (rowOf yss t).length = m) (hi : i < m) :
    (partK yss m t i).set t ((rowOf (partK yss m t i) t).set i (elOf (rowOf yss t) i)) = partK yss m t (i + 1) := by
  refine ext_rows (by simp [partK_length]) (fun a ha => ?_)
  simp only [List.length_set, partK_length] at ha
  have hset : rowOf ((partK yss m t i).set t ((rowOf (partK yss m t i) t).set i (elOf (rowOf yss t) i))) a = if a = t then (rowOf (partK yss m t i) t).set i (elOf (rowOf yss t) i) else rowOf (partK yss m t i) a := by
    unfold rowOf
    by_cases h : a = t
    · subst h; simp [List.getD, partK_length, ht]
    · rw [if_neg h]; simp [List.getD, List.getElem?_set_ne (Ne.symm h)]
  rw [hset]
  by_cases h : a = t
  · subst h
    rw [if_pos rfl, partK_row ht, partK_row ht, if_neg (by omega), if_pos rfl, if_neg (by omega), if_pos rfl]
    have hi' : i < (rowOf yss a).length := by omega
    rw [take_el hi']
    have hlen : ((rowOf yss a).take i).length = i := by simp; omega
    rw [List.set_append_right _ _ (by omega), hlen, Nat.sub_self]
    have : m - i = (m - (i + 1)) + 1 := by omega
    rw [this, List.replicate_succ, List.set_cons_zero]
    simp
  · rw [if_neg h, partK_row ha, partK_row ha]
    by_cases h1 : a < t
    · rw [if_pos h1, if_pos h1]
    · rw [if_neg h1, if_neg h1, if_neg h, if_neg h]
theorem partK_set {yss : List (List Int)} {m t i : Nat} {y : Int} (ht : t < yss.length) (hm : (rowOf yss t).length = m) (hi : i < m) (hy : elOf (rowOf yss t) i = y) :
    (partK yss m t i).set t ((rowOf (partK yss m t i) t).set i y) = partK yss m t (i + 1) := by subst hy; exact partK_step ht hm hi
/-- rows made by a rule -/
def genS (g : List Int → Nat → Int) (m : Nat) (xss : List (List Int)) : List (List Int) := xss.map fun xs => (List.range m).map (g xs)
theorem genS_length {g : List Int → Nat → Int} {m : Nat} {xss : List (List Int)} : (genS g m xss).length = xss.length := by simp [genS]
theorem genS_row {g : List Int → Nat → Int} {m : Nat} {xss : List (List Int)} {k : Nat} (hk : k < xss.length) : rowOf (genS g m xss) k = (List.range m).map (g (rowOf xss k)) := by
  simp [genS, rowOf, List.getD, hk]
theorem genS_len {g : List Int → Nat → Int} {m : Nat} {xss : List (List Int)} {k : Nat} (hk : k < xss.length) : (rowOf (genS g m xss) k).length = m := by rw [genS_row hk]; simp
theorem genS_el {g : List Int → Nat → Int} {m : Nat} {xss : List (List Int)} {k i : Nat} (hk : k < xss.length) (hi : i < m) : elOf (rowOf (genS g m xss) k) i = g (rowOf xss k) i := by
  rw [genS_row hk]; simp [elOf, List.getD, hi]
theorem rateB_yes {a : Int} (h : rateB a = true) : 1 ≤ a ∧ a ≤ 1000000 := by simpa [rateB] using h
/-- Resample: the length, an element, all -/
def rsN (m : Nat) (r q : Int) : Int := (m * q + r - 1) / r
def rsV (r q : Int) (xs : List Int) (k : Nat) : Int :=
  let i := ((k : Int) * r / q).toNat
  if i + 1 < xs.length then nearI (elOf xs i * q + ((k : Int) * r % q) * (elOf xs (i + 1) - elOf xs i)) q else elOf xs i
def rsS (r : Int) (xss : List (List Int)) (q : Int) : Int × List (List Int) × Int :=
  if chkS r xss ≠ 0 then (0, [], chkS r xss) else if rateB q = false then (0, [], 1) else if 100000 < rsN (len0 xss) r q then (0, [], 2) else (q, genS (rsV r q) (rsN (len0 xss) r q).toNat xss, 0)
theorem rs_bd {m : Nat} {r q : Int} (hm : m ≤ 100000) (hr : 1 ≤ r) (hr2 : r ≤ 1000000) (hq : 1 ≤ q) (hq2 : q ≤ 1000000) : 0 ≤ (m : Int) * q ∧ (m : Int) * q ≤ 100000000000 ∧ 0 ≤ rsN m r q ∧ rsN m r q ≤ 100001000000 := by
  have h1 : 0 ≤ (m : Int) * q := Int.mul_nonneg (by omega) (by omega)
  have h2 : (m : Int) * q ≤ 100000 * 1000000 := Int.mul_le_mul (by omega) hq2 (by omega) (by omega)
  refine ⟨h1, by omega, Int.ediv_nonneg (by omega) (by omega), ?_⟩
  have := Int.ediv_le_self (a := (m : Int) * q + r - 1) r (by omega)
  unfold rsN
  omega
/-- the place of element k of the new sound -/
theorem rs_at {m k : Nat} {r q : Int} (hr : 1 ≤ r) (hr2 : r ≤ 1000000) (hq : 1 ≤ q) (hk : (k : Int) < rsN m r q) (hN : rsN m r q ≤ 100000) :
    0 ≤ (k : Int) * r ∧ (k : Int) * r ≤ 100000000000 ∧ 0 ≤ (k : Int) * r / q ∧ (k : Int) * r / q < m ∧ 0 ≤ (k : Int) * r % q ∧ (k : Int) * r % q < q := by
  have h1 : 0 ≤ (k : Int) * r := Int.mul_nonneg (by omega) (by omega)
  have h2 : (k : Int) * r ≤ 100000 * 1000000 := Int.mul_le_mul (by omega) hr2 (by omega) (by omega)
  refine ⟨h1, by omega, Int.ediv_nonneg h1 (by omega), ?_, Int.emod_nonneg _ (by omega), Int.emod_lt_of_pos _ (by omega)⟩
  refine Int.ediv_lt_of_lt_mul (by omega) ?_
  have h3 : ((k : Int) + 1) ≤ rsN m r q := by omega
  have h4 : ((k : Int) + 1) * r ≤ (m : Int) * q + r - 1 := by
    unfold rsN at h3
    exact (Int.le_ediv_iff_mul_le (by omega)).1 h3
  rw [Int.add_mul] at h4
  omega
theorem near_self {x q : Int} (hq : 1 ≤ q) : nearI (x * q) q = x := by
  have hp : ∀ y : Int, 0 ≤ y → nearP (y * q) q = y := fun y hy => by
    rw [nearP_split (Int.mul_nonneg hy (by omega)) (by omega), Int.mul_emod_left, Int.mul_ediv_cancel _ (by omega), if_neg (by omega)]
  unfold nearI
  by_cases h : x < 0
  · have : x * q < 0 := Int.mul_neg_of_neg_of_pos h (by omega)
    rw [if_pos this, ← Int.neg_mul, hp _ (by omega)]; omega
  · have : 0 ≤ x * q := Int.mul_nonneg (by omega) (by omega)
    rw [if_neg (by omega), hp _ (by omega)]
/-- bounds of the sum that is rounded -/
theorem rs_sum {x y f q : Int} (hx1 : -8388608 ≤ x) (hx2 : x ≤ 8388607) (hy1 : -8388608 ≤ y) (hy2 : y ≤ 8388607) (hf : 0 ≤ f) (hf2 : f < q) (hq : 1 ≤ q) (hq2 : q ≤ 1000000) :
    -8388608000000 ≤ x * q ∧ x * q ≤ 8388608000000 ∧ -16777216000000 ≤ f * (y - x) ∧ f * (y - x) ≤ 16777216000000 := by
  have b : ∀ u v U V : Int, -U ≤ u → u ≤ U → 0 ≤ v → v ≤ V → 0 ≤ U → -(U * V) ≤ u * v ∧ u * v ≤ U * V := fun u v U V h1 h2 h3 h4 h5 => by
    have e1 : u * v ≤ U * v := Int.mul_le_mul_of_nonneg_right h2 h3
    have e2 : -U * v ≤ u * v := Int.mul_le_mul_of_nonneg_right h1 h3
    have e3 : U * v ≤ U * V := Int.mul_le_mul_of_nonneg_left h4 h5
    rw [Int.neg_mul] at e2
    omega
  have h1 := b x q 8388608 1000000 (by omega) (by omega) (by omega) (by omega) (by omega)
  have h2 := b (y - x) f 16777216 1000000 (by omega) (by omega) (by omega) (by omega) (by omega)
  rw [Int.mul_comm (y - x) f] at h2
  omega
end Go.Dw

/- The plain functions of chapter 2, continued: Resample at a rate several times as great; Quantise. No program in sight. -/
set_option linter.unusedSimpArgs false
set_option linter.unusedVariables false
namespace Go.Dw
theorem nearP_mono {a b c : Int} (hb : 0 < b) (h : a ≤ c) : nearP a b ≤ nearP c b := Int.ediv_le_ediv (by omega) (by omega)
theorem nearI_mono {a b c : Int} (hb : 0 < b) (h : a ≤ c) : nearI a b ≤ nearI c b := by
  unfold nearI
  by_cases ha : a < 0
  · rw [if_pos ha]
    by_cases hc : c < 0
    · rw [if_pos hc]
      have := nearP_mono (a := -c) (c := -a) hb (by omega)
      omega
    · rw [if_neg hc]
      have h1 := (nearP_bd (a := -a) (by omega) hb).1
      have h2 := (nearP_bd (a := c) (by omega) hb).1
      omega
  · rw [if_neg ha, if_neg (show ¬ c < 0 by omega)]
    exact nearP_mono hb h
/-- between two samples there is nothing beyond them -/
theorem near_between {x y f q : Int} (hq : 1 ≤ q) (hf : 0 ≤ f) (hf2 : f ≤ q) : min x y ≤ nearI (x * q + f * (y - x)) q ∧ nearI (x * q + f * (y - x)) q ≤ max x y := by
  rcases Int.le_total x y with h | h
  · have h1 : 0 ≤ f * (y - x) := Int.mul_nonneg hf (by omega)
    have h2 : f * (y - x) ≤ q * (y - x) := Int.mul_le_mul_of_nonneg_right hf2 (by omega)
    have h3 : q * (y - x) = y * q - x * q := by rw [Int.mul_sub, Int.mul_comm q y, Int.mul_comm q x]
    have a1 := nearI_mono (b := q) (a := x * q) (c := x * q + f * (y - x)) (by omega) (by omega)
    have a2 := nearI_mono (b := q) (a := x * q + f * (y - x)) (c := y * q) (by omega) (by omega)
    rw [near_self hq] at a1 a2
    omega
  · have h1 : 0 ≤ f * (x - y) := Int.mul_nonneg hf (by omega)
    have h2 : f * (x - y) ≤ q * (x - y) := Int.mul_le_mul_of_nonneg_right hf2 (by omega)
    have h3 : q * (x - y) = x * q - y * q := by rw [Int.mul_sub, Int.mul_comm q y, Int.mul_comm q x]
    have h4 : f * (y - x) = -(f * (x - y)) := by rw [← Int.mul_neg]; congr 1; omega
    have a1 := nearI_mono (b := q) (a := y * q) (c := x * q + f * (y - x)) (by omega) (by omega)
    have a2 := nearI_mono (b := q) (a := x * q + f * (y - x)) (c := x * q) (by omega) (by omega)
    rw [near_self hq] at a1 a2
    omega
theorem rsN_times {m : Nat} {r b : Int} (hr : 1 ≤ r) : rsN m r (r * b) = (m : Int) * b := by
  unfold rsN
  have e : (m : Int) * (r * b) + r - 1 = (r - 1) + r * ((m : Int) * b) := by
    have : (m : Int) * (r * b) = r * ((m : Int) * b) := by rw [← Int.mul_assoc, Int.mul_comm (m : Int) r, Int.mul_assoc]
    omega
  rw [e, Int.add_mul_ediv_left _ _ (by omega), Int.ediv_eq_zero_of_lt (by omega) (by omega)]
  omega
theorem rs_keep {r b : Int} {xs : List Int} {k : Nat} (hr : 1 ≤ r) (hb : 1 ≤ b) :
    ((k : Int) % b = 0 → rsV r (r * b) xs k = elOf xs ((k : Int) / b).toNat) ∧
    (((k : Int) / b).toNat + 1 < xs.length → min (elOf xs ((k : Int) / b).toNat) (elOf xs (((k : Int) / b).toNat + 1)) ≤ rsV r (r * b) xs k ∧ rsV r (r * b) xs k ≤ max (elOf xs ((k : Int) / b).toNat) (elOf xs (((k : Int) / b).toNat + 1))) ∧
    (¬ ((k : Int) / b).toNat + 1 < xs.length → rsV r (r * b) xs k = elOf xs ((k : Int) / b).toNat) := by
  have e1 : (k : Int) * r / (r * b) = (k : Int) / b := by rw [Int.mul_comm (k : Int) r]; exact Int.mul_ediv_mul_of_pos _ _ (by omega)
  have e2 : (k : Int) * r % (r * b) = r * ((k : Int) % b) := by rw [Int.mul_comm (k : Int) r]; exact Int.mul_emod_mul_of_pos _ _ (by omega)
  have hq : 1 ≤ r * b := Int.mul_le_mul hr hb (by omega) (by omega)
  have h0 := Int.emod_nonneg (k : Int) (show b ≠ 0 by omega)
  have h1 := Int.emod_lt_of_pos (k : Int) (show 0 < b by omega)
  have f0 : 0 ≤ r * ((k : Int) % b) := Int.mul_nonneg (by omega) h0
  have f1 : r * ((k : Int) % b) ≤ r * b := Int.mul_le_mul_of_nonneg_left (by omega) (by omega)
  unfold rsV
  simp only [e1, e2]
  refine ⟨fun h => ?_, fun h => ?_, fun h => ?_⟩
  · rw [h, Int.mul_zero, Int.zero_mul, Int.add_zero, near_self hq]
    split <;> rfl
  · rw [if_pos h]; exact near_between hq f0 f1
  · rw [if_neg h]
/-- Quantise -/
def qTop (st : Int) : Int := 8388607 / st * st
def qM (st x : Int) : Int := nearI x st * st
def qV (st x : Int) : Int := if qTop st < qM st x then qTop st else qM st x
def qC (inc : Int → Int) (st c x : Int) : Int := if qTop st < qM st x then inc c else c
def qStep (b : Int) : Int := 2 ^ (24 - b).toNat
def quS (inc : Int → Int) (r : Int) (xss : List (List Int)) (b : Int) : Int × List (List Int) × Int × Int :=
  if chkS r xss ≠ 0 then (0, [], 0, chkS r xss) else if b < 1 ∨ 24 < b then (0, [], 0, 1) else (r, xss.map (List.map (qV (qStep b))), stS (qC inc (qStep b)) 0 xss, 0)
theorem qStep_bd {b : Int} (h1 : 1 ≤ b) (h2 : b ≤ 24) : 1 ≤ qStep b ∧ qStep b ≤ 8388608 := by
  unfold qStep
  obtain ⟨n, hn⟩ : ∃ n, (24 - b).toNat = n := ⟨_, rfl⟩
  rw [hn]
  have : n ≤ 23 := by omega
  have h : ∀ n : Fin 24, (1 : Int) ≤ 2 ^ n.val ∧ (2 : Int) ^ n.val ≤ 8388608 := by decide
  exact h ⟨n, by omega⟩
/-- the steps that occur: a step times another number is 2 to the power of 23 -/
theorem qStep_dvd {b : Int} (h1 : 1 ≤ b) (h2 : b ≤ 24) : qStep b ∣ 8388608 := by
  refine ⟨2 ^ (b - 1).toNat, ?_⟩
  unfold qStep
  rw [← Int.pow_add, show (24 - b).toNat + (b - 1).toNat = 23 by omega]
  rfl
theorem nearI_bd {x st : Int} (hs : 1 ≤ st) : -(absI x) ≤ nearI x st ∧ nearI x st ≤ absI x := by
  unfold nearI absI
  split
  · have := nearP_bd (a := -x) (b := st) (by omega) (by omega); omega
  · have := nearP_bd (a := x) (b := st) (by omega) (by omega); omega
theorem qM_bd {st x : Int} (hs : 1 ≤ st) (hs2 : st ≤ 8388608) (hx1 : -8388608 ≤ x) (hx2 : x ≤ 8388607) : -8388608 ≤ nearI x st ∧ nearI x st ≤ 8388608 ∧ -70368744177664 ≤ qM st x ∧ qM st x ≤ 70368744177664 := by
  have h := nearI_bd (x := x) hs
  unfold absI at h
  have b1 : nearI x st * st ≤ 8388608 * st := Int.mul_le_mul_of_nonneg_right (by omega) (by omega)
  have b2 : -8388608 * st ≤ nearI x st * st := Int.mul_le_mul_of_nonneg_right (by omega) (by omega)
  unfold qM
  refine ⟨by omega, by omega, by omega, by omega⟩
theorem qTop_bd {st : Int} (hs : 1 ≤ st) : 0 ≤ qTop st ∧ qTop st ≤ 8388607 ∧ 0 ≤ 8388607 / st ∧ 8388607 / st ≤ 8388607 ∧ 8388607 < qTop st + st := by
  have h1 := Int.emod_add_mul_ediv 8388607 st
  have h2 := Int.emod_nonneg 8388607 (show st ≠ 0 by omega)
  have h3 := Int.emod_lt_of_pos 8388607 (show 0 < st by omega)
  have h4 : (0 : Int) ≤ 8388607 / st := Int.ediv_nonneg (by omega) (by omega)
  have h5 : (8388607 : Int) / st ≤ 8388607 := Int.ediv_le_self _ (by omega)
  have h6 : 0 ≤ 8388607 / st * st := Int.mul_nonneg h4 (by omega)
  unfold qTop
  rw [Int.mul_comm] at h1
  omega
/-- a multiple is beyond the top just if it is beyond the range -/
theorem qM_over {st x : Int} (hs : 1 ≤ st) : 8388607 < qM st x ↔ qTop st < qM st x := by
  obtain ⟨h1, h2, h3, h4, h5⟩ := qTop_bd hs
  refine ⟨fun h => by omega, fun h => ?_⟩
  unfold qM qTop at h
  unfold qTop at h5
  have hlt : 8388607 / st < nearI x st := by
    refine Int.lt_of_not_ge fun hge => ?_
    have := Int.mul_le_mul_of_nonneg_right hge (show 0 ≤ st by omega)
    omega
  have h6 : (8388607 / st + 1) * st ≤ nearI x st * st := Int.mul_le_mul_of_nonneg_right (by omega) (by omega)
  rw [Int.add_mul, Int.one_mul] at h6
  show 8388607 < nearI x st * st
  omega
theorem nearI_dvd {st x : Int} (hs : 1 ≤ st) (h : st ∣ x) : qM st x = x := by
  obtain ⟨y, rfl⟩ := h
  unfold qM
  rw [Int.mul_comm st y, near_self hs]
theorem qV_dvd {st x : Int} : st ∣ qV st x := by
  unfold qV
  split
  · exact ⟨8388607 / st, by unfold qTop; rw [Int.mul_comm]⟩
  · exact ⟨nearI x st, by unfold qM; rw [Int.mul_comm]⟩
/-- what has few bits is not changed by as many or more -/
theorem qV_once {s1 s2 x : Int} (h2 : 1 ≤ s2) (hd : s2 ∣ s1) (hx : qV s1 x ≤ qTop s1) (h1 : 1 ≤ s1) : qV s2 (qV s1 x) = qV s1 x ∧ ∀ inc c, qC inc s2 c (qV s1 x) = c := by
  have e : qM s2 (qV s1 x) = qV s1 x := nearI_dvd h2 (Int.dvd_trans hd qV_dvd)
  have t1 := qTop_bd h1
  have t2 := qTop_bd h2
  have hn : ¬ qTop s2 < qV s1 x := by
    intro h
    have := (qM_over (x := qV s1 x) h2).2 (by rw [e]; exact h)
    rw [e] at this
    omega
  refine ⟨?_, fun inc c => ?_⟩
  · show (if qTop s2 < qM s2 (qV s1 x) then _ else _) = _
    rw [e, if_neg hn]
  · show (if qTop s2 < qM s2 (qV s1 x) then _ else _) = _
    rw [e, if_neg hn]
theorem qV_top {st x : Int} : qV st x ≤ qTop st := by unfold qV; split <;> omega
theorem qStep_le {a b : Int} (h1 : 1 ≤ a) (h : a ≤ b) (h2 : b ≤ 24) : qStep b ∣ qStep a := by
  refine ⟨2 ^ (b - a).toNat, ?_⟩
  unfold qStep
  rw [← Int.pow_add, show (24 - b).toNat + (b - a).toNat = (24 - a).toNat by omega]
/-- a sample that is quantised is a sample -/
theorem qV_smp {b x : Int} (hb1 : 1 ≤ b) (hb2 : b ≤ 24) (h1 : -8388608 ≤ x) : -8388608 ≤ qV (qStep b) x ∧ qV (qStep b) x ≤ 8388607 := by
  obtain ⟨s1, s2⟩ := qStep_bd hb1 hb2
  have t := qTop_bd s1
  refine ⟨?_, by have := qV_top (st := qStep b) (x := x); omega⟩
  obtain ⟨d, hd⟩ := qStep_dvd hb1 hb2
  have hlo : -8388608 ≤ qM (qStep b) x := by
    have hm := nearI_mono (b := qStep b) (a := (-d) * qStep b) (c := x) (by omega) (by rw [Int.neg_mul, Int.mul_comm d, ← hd]; omega)
    rw [near_self s1] at hm
    have := Int.mul_le_mul_of_nonneg_right hm (show 0 ≤ qStep b by omega)
    rw [Int.neg_mul, Int.mul_comm d, ← hd] at this
    exact this
  unfold qV
  split <;> omega
theorem stS_map {σ : Type} {u : σ → Int → σ} {f : Int → Int} (h : ∀ s x, u s (f x) = s) (s : σ) (xss : List (List Int)) : stS u s (xss.map (List.map f)) = s := by
  have hr : ∀ (xs : List Int) (s : σ), stR u s (xs.map f) = s := by
    intro xs
    induction xs with
    | nil => intro s; rfl
    | cons x xs ih => intro s; show stR u (u s (f x)) (xs.map f) = s; rw [h]; exact ih s
  induction xss with
  | nil => rfl
  | cons t ts ih => show stS u (stR u s (t.map f)) (ts.map (List.map f)) = s; rw [hr]; exact ih
theorem chkS_mk {r : Int} {xss : List (List Int)} (h : OkS r xss) : chkS r xss = 0 := by
  have hT : ∀ (l : List (List Int)), (∀ t ∈ l, t.length = len0 xss ∧ t.all smpB = true) → chkT (len0 xss) l = 0 := by
    intro l
    induction l with
    | nil => intro _; rfl
    | cons t ts ih =>
      intro hl
      have ht := hl t (by simp)
      rw [chkT, if_neg (by simp [ht.1]), if_pos ht.2]
      exact ih fun u hu => hl u (by simp [hu])
  unfold chkS
  rw [if_neg (by simp [h.rate]), if_neg (by have := h.some; omega), if_neg (by have := h.few; have := h.long; omega)]
  exact hT _ h.rows
/-- a sound of which each sample is made anew, as a sample, is right -/
theorem OkS.mapped {r : Int} {xss : List (List Int)} (h : OkS r xss) {f : Int → Int} (hf : ∀ x, -8388608 ≤ x → x ≤ 8388607 → smpB (f x) = true) : OkS r (xss.map (List.map f)) ∧ len0 (xss.map (List.map f)) = len0 xss := by
  have hl : len0 (xss.map (List.map f)) = len0 xss := by
    cases xss with
    | nil => rfl
    | cons t ts => simp [len0]
  refine ⟨⟨h.rate, by simpa using h.some, by simpa using h.few, by rw [hl]; exact h.long, fun t ht => ?_⟩, hl⟩
  obtain ⟨u, hu, rfl⟩ := List.mem_map.1 ht
  have hr := h.rows u hu
  refine ⟨by rw [hl, List.length_map]; exact hr.1, ?_⟩
  rw [List.all_eq_true]
  intro y hy
  obtain ⟨x, hx, rfl⟩ := List.mem_map.1 hy
  have := smpB_yes (List.all_eq_true.1 hr.2 x hx)
  exact hf x this.1 this.2
end Go.Dw

/- The plain functions of chapter 2, continued: turning around. No program in sight. -/
set_option linter.unusedSimpArgs false
set_option linter.unusedVariables false
namespace Go.Dw
theorem elOf_lt {xs : List Int} {a : Nat} (h : a < xs.length) : elOf xs a = xs[a] := by simp [elOf, List.getD, h]
theorem ext_el {xs ys : List Int} (h : xs.length = ys.length) (he : ∀ a, a < xs.length → elOf xs a = elOf ys a) : xs = ys := by
  apply List.ext_getElem h
  intro i h1 h2
  have := he i h1
  rwa [elOf_lt h1, elOf_lt h2] at this
theorem elOf_set {xs : List Int} {k a : Nat} {y : Int} (hk : k < xs.length) : elOf (xs.set k y) a = if a = k then y else elOf xs a := by
  unfold elOf
  by_cases h : a = k
  · subst h; simp [List.getD, hk]
  · rw [if_neg h]; simp [List.getD, List.getElem?_set_ne (Ne.symm h)]
theorem elOf_reverse {xs : List Int} {a : Nat} (h : a < xs.length) : elOf xs.reverse a = elOf xs (xs.length - 1 - a) := by
  rw [elOf_lt (by simpa using h), elOf_lt (by omega), List.getElem_reverse]
def revK (xs : List Int) (i : Nat) : List Int := (List.range xs.length).map fun a => if a < i ∨ xs.length - i ≤ a then elOf xs (xs.length - 1 - a) else elOf xs a
theorem revK_length {xs : List Int} {i : Nat} : (revK xs i).length = xs.length := by simp [revK]
theorem revK_el {xs : List Int} {i a : Nat} (h : a < xs.length) : elOf (revK xs i) a = if a < i ∨ xs.length - i ≤ a then elOf xs (xs.length - 1 - a) else elOf xs a := by
  rw [elOf_lt (by rw [revK_length]; exact h)]; simp [revK]
theorem revK_start (xs : List Int) : revK xs 0 = xs := by
  refine ext_el revK_length fun a ha => ?_
  rw [revK_length] at ha
  rw [revK_el ha, if_neg (by omega)]
theorem revK_step {xs : List Int} {i : Nat} (h : i < xs.length - 1 - i) :
    ((revK xs i).set i (elOf xs (xs.length - 1 - i))).set (xs.length - 1 - i) (elOf xs i) = revK xs (i + 1) := by
  refine ext_el (by simp [revK_length]) fun a ha => ?_
  simp only [List.length_set, revK_length] at ha
  rw [elOf_set (by rw [List.length_set, revK_length]; omega), elOf_set (by rw [revK_length]; omega), revK_el ha, revK_el ha]
  by_cases h1 : a = xs.length - 1 - i
  · rw [if_pos h1, if_pos (by omega)]; congr 1; omega
  · rw [if_neg h1]
    by_cases h2 : a = i
    · rw [if_pos h2, if_pos (by omega)]; congr 1; omega
    · rw [if_neg h2]
      by_cases h3 : a < i ∨ xs.length - i ≤ a
      · rw [if_pos h3, if_pos (by omega)]
      · rw [if_neg h3, if_neg (by omega)]
theorem revK_end {xs : List Int} {i : Nat} (h : ¬ i < xs.length - 1 - i) (h2 : 2 * i ≤ xs.length) : revK xs i = xs.reverse := by
  refine ext_el (by simp [revK_length]) fun a ha => ?_
  rw [revK_length] at ha
  rw [revK_el ha, elOf_reverse ha]
  by_cases h3 : a < i ∨ xs.length - i ≤ a
  · rw [if_pos h3]
  · rw [if_neg h3]; congr 1; omega
/-- the rows below k turned around -/
def revRows (xss : List (List Int)) (k : Nat) : List (List Int) := (xss.take k).map List.reverse ++ xss.drop k
theorem revRows_length {xss : List (List Int)} {k : Nat} : (revRows xss k).length = xss.length := by simp [revRows]; omega
theorem revRows_start (xss : List (List Int)) : revRows xss 0 = xss := by simp [revRows]
theorem revRows_end {xss : List (List Int)} : revRows xss xss.length = xss.map List.reverse := by simp [revRows]
theorem revRows_row {xss : List (List Int)} {k : Nat} (hk : k < xss.length) : rowOf (revRows xss k) k = rowOf xss k := by
  unfold rowOf revRows
  simp [List.getD, List.getElem?_append, Nat.min_eq_left (Nat.le_of_lt hk)]
theorem revRows_step {xss : List (List Int)} {k : Nat} (hk : k < xss.length) : (revRows xss k).set k (rowOf xss k).reverse = revRows xss (k + 1) := by
  unfold revRows
  have hl : ((xss.take k).map List.reverse).length = k := by simp; omega
  rw [List.set_append_right _ _ (by omega), hl, Nat.sub_self, drop_row hk, List.set_cons_zero, take_row hk, List.map_append]
  simp
def rvS (r : Int) (xss : List (List Int)) : Int × List (List Int) × Int := if chkS r xss ≠ 0 then (0, [], chkS r xss) else (r, xss.map List.reverse, 0)
/-- what is filled element by element, in any order: the done elements are those of yss -/
structure PartOf (yss zss : List (List Int)) (m : Nat) (done : Nat → Nat → Prop) : Prop where
  len : zss.length = yss.length
  rows : ∀ a, a < yss.length → (rowOf zss a).length = m
  el : ∀ a i, a < yss.length → i < m → done a i → elOf (rowOf zss a) i = elOf (rowOf yss a) i
theorem PartOf.start (yss : List (List Int)) (m : Nat) {done : Nat → Nat → Prop} (h : ∀ a i, a < yss.length → i < m → ¬ done a i) : PartOf yss (zeroS yss.length m) m done :=
  ⟨zeroS_length _ _, fun a ha => by rw [zeroS_row ha]; simp, fun a i ha hi hd => absurd hd (h a i ha hi)⟩
theorem rowOf_set' {xss : List (List Int)} {k a : Nat} {xs : List Int} (hk : k < xss.length) : rowOf (xss.set k xs) a = if a = k then xs else rowOf xss a := by
  unfold rowOf
  by_cases h : a = k
  · subst h; simp [List.getD, hk]
  · rw [if_neg h]; simp [List.getD, List.getElem?_set_ne (Ne.symm h)]
theorem PartOf.set_ {yss zss : List (List Int)} {m : Nat} {done done' : Nat → Nat → Prop} (h : PartOf yss zss m done) {k j : Nat} {y : Int} (hk : k < yss.length) (hj : j < m) (hy : elOf (rowOf yss k) j = y)
    (hd : ∀ a i, a < yss.length → i < m → done' a i → done a i ∨ (a = k ∧ i = j)) : PartOf yss (zss.set k ((rowOf zss k).set j y)) m done' := by
  have hk' : k < zss.length := by rw [h.len]; exact hk
  refine ⟨by rw [List.length_set]; exact h.len, fun a ha => ?_, fun a i ha hi hdn => ?_⟩
  · rw [rowOf_set' hk']
    split
    · rw [List.length_set]; exact h.rows k hk
    · exact h.rows a ha
  · rw [rowOf_set' hk']
    by_cases hak : a = k
    · subst hak
      rw [if_pos rfl, elOf_set (by rw [h.rows a ha]; exact hj)]
      by_cases hij : i = j
      · subst hij; rw [if_pos rfl]; exact hy.symm
      · rw [if_neg hij]
        rcases hd a i ha hi hdn with h1 | h1
        · exact h.el a i ha hi h1
        · exact absurd h1.2 hij
    · rw [if_neg hak]
      rcases hd a i ha hi hdn with h1 | h1
      · exact h.el a i ha hi h1
      · exact absurd h1.1 hak
theorem PartOf.weaken {yss zss : List (List Int)} {m : Nat} {done done' : Nat → Nat → Prop} (h : PartOf yss zss m done) (hd : ∀ a i, a < yss.length → i < m → done' a i → done a i) : PartOf yss zss m done' :=
  ⟨h.len, h.rows, fun a i ha hi hx => h.el a i ha hi (hd a i ha hi hx)⟩
theorem PartOf.all {yss zss : List (List Int)} {m : Nat} {done : Nat → Nat → Prop} (h : PartOf yss zss m done) (hm : ∀ a, a < yss.length → (rowOf yss a).length = m) (hd : ∀ a i, a < yss.length → i < m → done a i) : zss = yss := by
  refine ext_rows h.len fun a ha => ?_
  rw [h.len] at ha
  refine ext_el ((h.rows a ha).trans (hm a ha).symm) fun i hi => ?_
  rw [h.rows a ha] at hi
  exact h.el a i ha hi (hd a i ha hi)
theorem rev_row {xss : List (List Int)} {k : Nat} (hk : k < xss.length) : rowOf (xss.map List.reverse) k = (rowOf xss k).reverse := by
  simp [rowOf, List.getD, hk]
end Go.Dw

/- The plain functions of chapter 2, continued: Fade. No program in sight. -/
set_option linter.unusedSimpArgs false
set_option linter.unusedVariables false
namespace Go.Dw
/-- what is written over element by element: the done elements are those of Y, the others those of X -/
structure MixOf (X Y zss : List (List Int)) (m : Nat) (done : Nat → Nat → Prop) : Prop where
  len : zss.length = X.length
  rows : ∀ a, a < X.length → (rowOf zss a).length = m
  yes : ∀ a i, a < X.length → i < m → done a i → elOf (rowOf zss a) i = elOf (rowOf Y a) i
  no : ∀ a i, a < X.length → i < m → ¬ done a i → elOf (rowOf zss a) i = elOf (rowOf X a) i
theorem MixOf.start {X Y : List (List Int)} {m : Nat} {done : Nat → Nat → Prop} (hm : ∀ a, a < X.length → (rowOf X a).length = m) (h : ∀ a i, a < X.length → i < m → done a i → elOf (rowOf X a) i = elOf (rowOf Y a) i) : MixOf X Y X m done :=
  ⟨rfl, hm, h, fun _ _ _ _ _ => rfl⟩
theorem MixOf.set_ {X Y zss : List (List Int)} {m : Nat} {done done' : Nat → Nat → Prop} (h : MixOf X Y zss m done) {k j : Nat} {y : Int} (hk : k < X.length) (hj : j < m) (hy : elOf (rowOf Y k) j = y)
    (hd : ∀ a i, a < X.length → i < m → (done' a i ↔ done a i ∨ (a = k ∧ i = j))) : MixOf X Y (zss.set k ((rowOf zss k).set j y)) m done' := by
  have hk' : k < zss.length := by rw [h.len]; exact hk
  refine ⟨by rw [List.length_set]; exact h.len, fun a ha => ?_, fun a i ha hi hdn => ?_, fun a i ha hi hdn => ?_⟩
  · rw [rowOf_set' hk']
    split
    · rw [List.length_set]; exact h.rows k hk
    · exact h.rows a ha
  · rw [rowOf_set' hk']
    by_cases hak : a = k
    · subst hak
      rw [if_pos rfl, elOf_set (by rw [h.rows a ha]; exact hj)]
      by_cases hij : i = j
      · subst hij; rw [if_pos rfl]; exact hy.symm
      · rw [if_neg hij]
        rcases (hd a i ha hi).1 hdn with h1 | h1
        · exact h.yes a i ha hi h1
        · exact absurd h1.2 hij
    · rw [if_neg hak]
      rcases (hd a i ha hi).1 hdn with h1 | h1
      · exact h.yes a i ha hi h1
      · exact absurd h1.1 hak
  · have h0 : ¬ (done a i ∨ (a = k ∧ i = j)) := fun hx => hdn ((hd a i ha hi).2 hx)
    rw [rowOf_set' hk']
    by_cases hak : a = k
    · subst hak
      rw [if_pos rfl, elOf_set (by rw [h.rows a ha]; exact hj), if_neg (fun e => h0 (.inr ⟨rfl, e⟩))]
      exact h.no a i ha hi (fun hx => h0 (.inl hx))
    · rw [if_neg hak]; exact h.no a i ha hi (fun hx => h0 (.inl hx))
theorem MixOf.turn {X Y zss : List (List Int)} {m : Nat} {done done' : Nat → Nat → Prop} (h : MixOf X Y zss m done) (hd : ∀ a i, a < X.length → i < m → (done' a i ↔ done a i) ∨ elOf (rowOf X a) i = elOf (rowOf Y a) i) : MixOf X Y zss m done' :=
  ⟨h.len, h.rows, fun a i ha hi hx => by
    by_cases hdn : done a i
    · exact h.yes a i ha hi hdn
    · rcases hd a i ha hi with h1 | h1
      · exact absurd (h1.1 hx) hdn
      · rw [h.no a i ha hi hdn, h1], fun a i ha hi hx => by
    by_cases hdn : done a i
    · rcases hd a i ha hi with h1 | h1
      · exact absurd (h1.2 hdn) hx
      · rw [h.yes a i ha hi hdn, h1]
    · exact h.no a i ha hi hdn⟩
theorem MixOf.all {X Y zss : List (List Int)} {m : Nat} {done : Nat → Nat → Prop} (h : MixOf X Y zss m done) (hl : Y.length = X.length) (hm : ∀ a, a < X.length → (rowOf Y a).length = m) (hd : ∀ a i, a < X.length → i < m → done a i ∨ elOf (rowOf X a) i = elOf (rowOf Y a) i) : zss = Y := by
  refine ext_rows (h.len.trans hl.symm) fun a ha => ?_
  rw [h.len] at ha
  refine ext_el ((h.rows a ha).trans (hm a ha).symm) fun i hi => ?_
  rw [h.rows a ha] at hi
  by_cases hx : done a i
  · exact h.yes a i ha hi hx
  · rcases hd a i ha hi with h1 | h1
    · exact absurd h1 hx
    · rw [h.no a i ha hi hx, h1]

def facS (sh k n : Int) : Int := if sh = 1 then (k + 1) * (n + 1) else if sh = 2 then (k + 1) * (k + 1) else (n + 1) * (n + 1) - (n - k) * (n - k)
def shB (sh : Int) : Bool := decide (1 ≤ sh) && decide (sh ≤ 3)
def fadeK (up : Bool) (p q : Int) (i : Nat) : Int := if up = true then (i : Int) - p else q - p - 1 - ((i : Int) - p)
def fadeV (sh : Int) (up : Bool) (p q : Int) (xs : List Int) (i : Nat) : Int :=
  if p ≤ (i : Int) ∧ (i : Int) < q then nearI (elOf xs i * facS sh (fadeK up p q i) (q - p)) ((q - p + 1) * (q - p + 1)) else elOf xs i
def fdS (r : Int) (xss : List (List Int)) (p q sh : Int) (up : Bool) : Int × List (List Int) × Int :=
  if chkS r xss ≠ 0 then (0, [], chkS r xss) else if cutF p q (len0 xss) ≠ 0 then (0, [], 1) else if shB sh = false then (0, [], 4) else (r, genS (fadeV sh up p q) (len0 xss) xss, 0)
theorem sq_le {a b : Int} (h0 : 0 ≤ a) (h : a ≤ b) : 0 ≤ a * a ∧ a * a ≤ b * b := ⟨Int.mul_nonneg h0 h0, Int.mul_le_mul h h h0 (by omega)⟩
theorem facS_bd {sh k n : Int} (h0 : 0 ≤ k) (h1 : k < n) (h2 : n ≤ 100000) :
    0 ≤ facS sh k n ∧ facS sh k n ≤ (n + 1) * (n + 1) ∧ (n + 1) * (n + 1) ≤ 10000200001 ∧ 1 ≤ (n + 1) * (n + 1) ∧ 0 ≤ (k + 1) * (n + 1) ∧ (k + 1) * (n + 1) ≤ 10000200001 ∧ 0 ≤ (k + 1) * (k + 1) ∧ (k + 1) * (k + 1) ≤ 10000200001 ∧ 0 ≤ (n - k) * (n - k) ∧ (n - k) * (n - k) ≤ 10000200001 := by
  have a1 := sq_le (a := n + 1) (b := 100001) (by omega) (by omega)
  have a2 := sq_le (a := k + 1) (b := n + 1) (by omega) (by omega)
  have a3 := sq_le (a := n - k) (b := n + 1) (by omega) (by omega)
  have a4 : 0 ≤ (k + 1) * (n + 1) := Int.mul_nonneg (by omega) (by omega)
  have a5 : (k + 1) * (n + 1) ≤ (n + 1) * (n + 1) := Int.mul_le_mul_of_nonneg_right (by omega) (by omega)
  have a6 := sq_le (a := 1) (b := n + 1) (by omega) (by omega)
  unfold facS
  refine ⟨?_, ?_, ?_⟩
  · split
    · exact a4
    · split <;> omega
  · split
    · exact a5
    · split <;> omega
  · omega
/-- what is multiplied by a part of d and divided by d lies between 0 and itself -/
theorem near_part {x f d : Int} (hd : 1 ≤ d) (hf : 0 ≤ f) (hf2 : f ≤ d) : (0 ≤ x → 0 ≤ nearI (x * f) d ∧ nearI (x * f) d ≤ x) ∧ (x < 0 → x ≤ nearI (x * f) d ∧ nearI (x * f) d ≤ 0) := by
  have z : nearI 0 d = 0 := by have := near_self (x := 0) hd; rwa [Int.zero_mul] at this
  refine ⟨fun h => ?_, fun h => ?_⟩
  · have h1 : 0 ≤ x * f := Int.mul_nonneg h hf
    have h2 : x * f ≤ x * d := Int.mul_le_mul_of_nonneg_left hf2 h
    have a1 := nearI_mono (b := d) (by omega) h1
    have a2 := nearI_mono (b := d) (by omega) h2
    rw [near_self hd] at a2
    rw [z] at a1
    exact ⟨a1, a2⟩
  · have h1 : 0 ≤ (-x) * f := Int.mul_nonneg (by omega) hf
    have h2 : (-x) * f ≤ (-x) * d := Int.mul_le_mul_of_nonneg_left hf2 (by omega)
    rw [Int.neg_mul] at h1
    rw [Int.neg_mul, Int.neg_mul] at h2
    have a1 := nearI_mono (b := d) (a := x * f) (c := 0) (by omega) (by omega)
    have a2 := nearI_mono (b := d) (a := x * d) (c := x * f) (by omega) (by omega)
    rw [near_self hd] at a2
    rw [z] at a1
    exact ⟨a2, a1⟩
/-- a product of a sample and a factor -/
theorem fade_bd {x f d : Int} (hx1 : -8388608 ≤ x) (hx2 : x ≤ 8388607) (hf : 0 ≤ f) (hf2 : f ≤ d) (hd : d ≤ 10000200001) : -84000000000000000 ≤ x * f ∧ x * f ≤ 84000000000000000 := by
  have h1 : x * f ≤ 8388608 * f := Int.mul_le_mul_of_nonneg_right (by omega) hf
  have h2 : -8388608 * f ≤ x * f := Int.mul_le_mul_of_nonneg_right (by omega) hf
  omega
theorem fadeK_bd {up : Bool} {p q : Int} {i : Nat} (h1 : p ≤ (i : Int)) (h2 : (i : Int) < q) : 0 ≤ fadeK up p q i ∧ fadeK up p q i < q - p := by
  unfold fadeK; split <;> omega
theorem fadeV_in {sh : Int} {up : Bool} {p q : Int} {xs : List Int} {i : Nat} (h1 : p ≤ (i : Int)) (h2 : (i : Int) < q) : fadeV sh up p q xs i = nearI (elOf xs i * facS sh (fadeK up p q i) (q - p)) ((q - p + 1) * (q - p + 1)) := if_pos ⟨h1, h2⟩
theorem fadeV_out {sh : Int} {up : Bool} {p q : Int} {xs : List Int} {i : Nat} (h : (i : Int) < p ∨ q ≤ (i : Int)) : fadeV sh up p q xs i = elOf xs i := if_neg (by omega)
/-- a fade makes no sample greater -/
theorem fadeV_quiet {sh : Int} {up : Bool} {p q : Int} {xs : List Int} {i : Nat} (hq : q - p ≤ 100000) : (0 ≤ elOf xs i → 0 ≤ fadeV sh up p q xs i ∧ fadeV sh up p q xs i ≤ elOf xs i) ∧ (elOf xs i < 0 → elOf xs i ≤ fadeV sh up p q xs i ∧ fadeV sh up p q xs i ≤ 0) := by
  by_cases h : p ≤ (i : Int) ∧ (i : Int) < q
  · rw [fadeV_in h.1 h.2]
    have hk := fadeK_bd (up := up) h.1 h.2
    have hf := facS_bd (sh := sh) hk.1 hk.2 hq
    exact near_part hf.2.2.2.1 hf.1 hf.2.1
  · rw [fadeV_out (by omega)]; omega
theorem fadeV_smp {sh : Int} {up : Bool} {p q : Int} {xs : List Int} {i : Nat} (hq : q - p ≤ 100000) (h1 : -8388608 ≤ elOf xs i) (h2 : elOf xs i ≤ 8388607) : smpB (fadeV sh up p q xs i) = true := by
  have h := fadeV_quiet (sh := sh) (up := up) (p := p) (q := q) (xs := xs) (i := i) hq
  by_cases h0 : 0 ≤ elOf xs i
  · have := h.1 h0; exact smpB_mk (by omega) (by omega)
  · have := h.2 (by omega); exact smpB_mk (by omega) (by omega)
/-- a fade of the turned sound, the other way -/
theorem fadeV_turn {sh : Int} {up : Bool} {p q : Int} {xs : List Int} {i : Nat} (hi : i < xs.length) : fadeV sh (!up) ((xs.length : Int) - q) ((xs.length : Int) - p) xs.reverse (xs.length - 1 - i) = fadeV sh up p q xs i := by
  have hr : elOf xs.reverse (xs.length - 1 - i) = elOf xs i := by
    rw [elOf_reverse (by omega)]; congr 1; omega
  have hc : ((xs.length - 1 - i : Nat) : Int) = (xs.length : Int) - 1 - i := by omega
  by_cases h : p ≤ (i : Int) ∧ (i : Int) < q
  · rw [fadeV_in h.1 h.2, fadeV_in (by omega) (by omega), hr]
    have hk : fadeK (!up) ((xs.length : Int) - q) ((xs.length : Int) - p) (xs.length - 1 - i) = fadeK up p q i := by
      unfold fadeK
      rw [hc]
      cases up <;> simp <;> omega
    have hn : (xs.length : Int) - p - ((xs.length : Int) - q) = q - p := by omega
    rw [hk, hn]
  · rw [fadeV_out (by omega), fadeV_out (by omega), hr]
theorem genS_OkS {g : List Int → Nat → Int} {r : Int} {xss : List (List Int)} (h : OkS r xss) (hg : ∀ k i, k < xss.length → i < len0 xss → smpB (g (rowOf xss k) i) = true) : OkS r (genS g (len0 xss) xss) ∧ len0 (genS g (len0 xss) xss) = len0 xss := by
  have hl : len0 (genS g (len0 xss) xss) = len0 xss := genS_len h.some
  refine ⟨⟨h.rate, by rw [genS_length]; exact h.some, by rw [genS_length]; exact h.few, by rw [hl]; exact h.long, fun t ht => ?_⟩, hl⟩
  obtain ⟨k, hk, rfl⟩ := List.mem_iff_getElem.1 ht
  rw [genS_length] at hk
  have hrow : (genS g (len0 xss) xss)[k]'(by rw [genS_length]; exact hk) = rowOf (genS g (len0 xss) xss) k := by simp [rowOf, List.getD, genS_length, hk]
  rw [hrow]
  refine ⟨by rw [genS_len hk, hl], ?_⟩
  rw [genS_row hk, List.all_eq_true]
  intro y hy
  obtain ⟨i, hi, rfl⟩ := List.mem_map.1 hy
  exact hg k i hk (List.mem_range.1 hi)
theorem OkS.reversed {r : Int} {xss : List (List Int)} (h : OkS r xss) : OkS r (xss.map List.reverse) ∧ len0 (xss.map List.reverse) = len0 xss := by
  have hl : len0 (xss.map List.reverse) = len0 xss := by
    cases xss with
    | nil => rfl
    | cons t ts => simp [len0]
  refine ⟨⟨h.rate, by simpa using h.some, by simpa using h.few, by rw [hl]; exact h.long, fun t ht => ?_⟩, hl⟩
  obtain ⟨u, hu, rfl⟩ := List.mem_map.1 ht
  have hr := h.rows u hu
  exact ⟨by rw [hl, List.length_reverse]; exact hr.1, by rw [List.all_reverse]; exact hr.2⟩
/-- a fade is turned around with its sound -/
theorem fade_turn {r : Int} {xss : List (List Int)} (h : OkS r xss) {sh : Int} {up : Bool} {p q : Int} : (genS (fadeV sh (!up) ((len0 xss : Int) - q) ((len0 xss : Int) - p)) (len0 xss) (xss.map List.reverse)).map List.reverse = genS (fadeV sh up p q) (len0 xss) xss := by
  refine ext_rows (by simp [genS_length]) fun a ha => ?_
  rw [List.length_map, genS_length, List.length_map] at ha
  have hr := (h.row ha).1
  rw [rev_row (by rw [genS_length, List.length_map]; exact ha)]
  refine ext_el (by rw [List.length_reverse, genS_len (by rw [List.length_map]; exact ha), genS_len ha]) fun i hi => ?_
  rw [List.length_reverse, genS_len (by rw [List.length_map]; exact ha)] at hi
  rw [elOf_reverse (by rw [genS_len (by rw [List.length_map]; exact ha)]; exact hi), genS_len (by rw [List.length_map]; exact ha), genS_el (by rw [List.length_map]; exact ha) (by omega), genS_el ha hi, rev_row ha]
  have := fadeV_turn (sh := sh) (up := up) (p := p) (q := q) (xs := rowOf xss a) (i := i) (by rw [hr]; exact hi)
  rw [hr] at this
  exact this
theorem cutXs_all {xss : List (List Int)} {m : Nat} (h : ∀ a, a < xss.length → (rowOf xss a).length = m) : cutXs 0 (m : Int) xss = xss := by
  unfold cutXs
  refine ext_rows (by simp) fun a ha => ?_
  rw [List.length_map] at ha
  have := h a ha
  have hg : rowOf (xss.map fun x => (x.drop (0 : Int).toNat).take ((m : Int).toNat - (0 : Int).toNat)) a = ((rowOf xss a).drop 0).take m := by
    simp [rowOf, List.getD, ha]
  rw [hg, List.drop_zero, List.take_of_length_le (by omega)]
end Go.Dw

/- The plain functions of chapter 2, continued: clipping; Mix. No program in sight. -/
set_option linter.unusedSimpArgs false
set_option linter.unusedVariables false
namespace Go.Dw
def clipV (x : Int) : Int := if 8388607 < x then 8388607 else if x < -8388608 then -8388608 else x
def clipN (x : Int) : Int := if 8388607 < x then 1 else if x < -8388608 then 1 else 0
def clipU (c x : Int) : Int := c + clipN x
theorem clipN_bd (x : Int) : 0 ≤ clipN x ∧ clipN x ≤ 1 := by unfold clipN; (repeat' split) <;> omega
theorem clipV_bd (x : Int) : -8388608 ≤ clipV x ∧ clipV x ≤ 8388607 := by unfold clipV; (repeat' split) <;> omega
theorem clipR_bd (xs : List Int) : ∀ c : Int, c ≤ stR clipU c xs ∧ stR clipU c xs ≤ c + xs.length := by
  induction xs with
  | nil => intro c; exact ⟨Int.le_refl _, by simp [stR]⟩
  | cons x xs ih =>
    intro c
    have h := ih (clipU c x)
    have b := clipN_bd x
    show c ≤ stR clipU (clipU c x) xs ∧ stR clipU (clipU c x) xs ≤ _
    unfold clipU at h ⊢
    rw [List.length_cons]
    exact ⟨by omega, by omega⟩
theorem clipS_bd {m : Nat} (xss : List (List Int)) (hm : ∀ t ∈ xss, t.length = m) : ∀ c : Int, c ≤ stS clipU c xss ∧ stS clipU c xss ≤ c + (xss.length : Int) * m := by
  induction xss with
  | nil => intro c; exact ⟨Int.le_refl _, by simp [stS]⟩
  | cons t ts ih =>
    intro c
    have h := ih (fun u hu => hm u (by simp [hu])) (stR clipU c t)
    have b := clipR_bd t c
    rw [hm t (by simp)] at b
    show c ≤ stS clipU (stR clipU c t) ts ∧ stS clipU (stR clipU c t) ts ≤ _
    rw [List.length_cons, Int.natCast_add, Int.add_mul]
    exact ⟨by omega, by omega⟩
/-- the sums, before they are clipped -/
def sumV (xss yss : List (List Int)) (k i : Nat) : Int := elOf (rowOf xss k) i + elOf (rowOf yss k) i
def mtx (f : Nat → Nat → Int) (n m : Nat) : List (List Int) := (List.range n).map fun k => (List.range m).map (f k)
theorem mtx_length {f : Nat → Nat → Int} {n m : Nat} : (mtx f n m).length = n := by simp [mtx]
theorem mtx_row {f : Nat → Nat → Int} {n m k : Nat} (hk : k < n) : rowOf (mtx f n m) k = (List.range m).map (f k) := by simp [mtx, rowOf, List.getD, hk]
theorem mtx_len {f : Nat → Nat → Int} {n m k : Nat} (hk : k < n) : (rowOf (mtx f n m) k).length = m := by rw [mtx_row hk]; simp
theorem mtx_el {f : Nat → Nat → Int} {n m k i : Nat} (hk : k < n) (hi : i < m) : elOf (rowOf (mtx f n m) k) i = f k i := by rw [mtx_row hk]; simp [elOf, List.getD, hi]
theorem mtx_rows {f : Nat → Nat → Int} {n m : Nat} : ∀ t ∈ mtx f n m, t.length = m := by
  intro t ht
  obtain ⟨k, _, rfl⟩ := List.mem_map.1 ht
  simp
/-- how many of the elements ahead of place (k, j) were clipped -/
def cntK (T : List (List Int)) (k j : Nat) : Int := stR clipU (stS clipU 0 (T.take k)) ((rowOf T k).take j)
theorem cntK_zero (T : List (List Int)) : cntK T 0 0 = 0 := by simp [cntK, stS, stR]
theorem cntK_next {T : List (List Int)} {k m : Nat} (hk : k < T.length) (hm : (rowOf T k).length = m) : cntK T k m = cntK T (k + 1) 0 := by
  unfold cntK
  rw [List.take_of_length_le (l := rowOf T k) (by omega), stS_take hk]
  simp [stR]
theorem cntK_step {T : List (List Int)} {k j : Nat} (hj : j < (rowOf T k).length) : cntK T k (j + 1) = cntK T k j + clipN (elOf (rowOf T k) j) := by
  unfold cntK
  rw [stR_take hj]
  rfl
theorem cntK_all {T : List (List Int)} {n : Nat} (h : T.length = n) : cntK T n 0 = stS clipU 0 T := by
  unfold cntK; rw [List.take_of_length_le (by omega)]; simp [stR]
theorem cntK_bd {T : List (List Int)} {m k j : Nat} (hm : ∀ t ∈ T, t.length = m) (hT : T.length ≤ 16) (hk : k ≤ T.length) (hm2 : m ≤ 200000) : 0 ≤ cntK T k j ∧ cntK T k j ≤ 4000000 := by
  have h1 := clipS_bd (m := m) (T.take k) (fun t ht => hm t (List.mem_of_mem_take ht)) 0
  have h2 := clipR_bd ((rowOf T k).take j) (stS clipU 0 (T.take k))
  have h3 : ((T.take k).length : Int) * m ≤ 16 * 200000 := Int.mul_le_mul (by rw [List.length_take]; omega) (by omega) (by omega) (by omega)
  have h4 : ((rowOf T k).take j).length ≤ 200000 := by
    rw [List.length_take]
    by_cases hk' : k < T.length
    · have := hm (rowOf T k) (by simp only [rowOf, List.getD, List.getElem?_eq_getElem hk', Option.getD_some]; exact List.getElem_mem hk')
      omega
    · have : rowOf T k = [] := by simp [rowOf, List.getD, Nat.not_lt.1 hk']
      rw [this]; simp
  unfold cntK
  omega
/-- Mix -/
def mixT (xss yss : List (List Int)) : List (List Int) := mtx (sumV xss yss) xss.length (max (len0 xss) (len0 yss))
def clipS (T : List (List Int)) : List (List Int) := T.map (List.map clipV)
theorem clipS_el {T : List (List Int)} {k i : Nat} (hk : k < T.length) (hi : i < (rowOf T k).length) : elOf (rowOf (clipS T) k) i = clipV (elOf (rowOf T k) i) := by
  have : rowOf (clipS T) k = (rowOf T k).map clipV := by simp [clipS, rowOf, List.getD, hk]
  rw [this]; simp [elOf, List.getD, hi]
theorem clipS_length (T : List (List Int)) : (clipS T).length = T.length := by simp [clipS]
theorem clipS_len {T : List (List Int)} {k : Nat} (hk : k < T.length) : (rowOf (clipS T) k).length = (rowOf T k).length := by
  have : rowOf (clipS T) k = (rowOf T k).map clipV := by simp [clipS, rowOf, List.getD, hk]
  rw [this]; simp
theorem elOf_ge {xs : List Int} {i : Nat} (h : xs.length ≤ i) : elOf xs i = 0 := by simp [elOf, List.getD, h]
end Go.Dw
