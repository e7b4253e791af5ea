/- The plain functions of chapter 2 (sounds) that both sides are shown to compute. No program in sight. -/
set_option linter.unusedSimpArgs false
set_option linter.unusedVariables false
namespace Go.Dw
def rateB (a : Int) : Bool := decide (1 ≤ a) && decide (a ≤ 1000000)
def smpB (x : Int) : Bool := decide (-8388608 ≤ x) && decide (x ≤ 8388607)
def len0 (xss : List (List Int)) : Nat := (xss.getD 0 []).length
def rowOf (xss : List (List Int)) (k : Nat) : List Int := xss.getD k []
def elOf (xs : List Int) (k : Nat) : Int := xs.getD k 0
def chkT (m : Nat) : List (List Int) → Int
  | [] => 0
  | t :: ts => if t.length ≠ m then 3 else if t.all smpB then chkT m ts else 1
def chkS (r : Int) (xss : List (List Int)) : Int :=
  if rateB r = false then 1 else if xss.length = 0 then 9 else if xss.length > 16 ∨ len0 xss > 100000 then 2 else chkT (len0 xss) xss

theorem drop_row {xss : List (List Int)} {k : Nat} (hk : k < xss.length) : xss.drop k = rowOf xss k :: xss.drop (k + 1) := by
  rw [List.drop_eq_getElem_cons hk]; simp [rowOf, List.getD, List.getElem?_eq_getElem hk]
theorem chkT_step {m : Nat} {xss : List (List Int)} {k : Nat} (hk : k < xss.length) (hl : (rowOf xss k).length = m) (ha : (rowOf xss k).all smpB = true) :
    chkT m (xss.drop (k + 1)) = chkT m (xss.drop k) := by
  rw [drop_row hk, chkT, if_neg (by simp [hl]), if_pos ha]
theorem chkT_len {m : Nat} {xss : List (List Int)} {k : Nat} (hk : k < xss.length) (hl : (rowOf xss k).length ≠ m) : chkT m (xss.drop k) = 3 := by
  rw [drop_row hk, chkT, if_pos hl]
theorem chkT_bad {m : Nat} {xss : List (List Int)} {k : Nat} (hk : k < xss.length) (hl : (rowOf xss k).length = m) {j : Nat} (hj : j < (rowOf xss k).length) (hb : smpB (elOf (rowOf xss k) j) = false) : chkT m (xss.drop k) = 1 := by
  rw [drop_row hk, chkT, if_neg (by simp [hl]), if_neg]
  intro hall
  rw [List.all_eq_true] at hall
  have := hall _ (List.getElem_mem hj)
  simp [elOf, List.getD, List.getElem?_eq_getElem hj] at hb
  rw [this] at hb
  cases hb
theorem chkS_rate {r : Int} {xss : List (List Int)} (h : rateB r = false) : chkS r xss = 1 := by simp [chkS, h]
theorem chkS_none {r : Int} {xss : List (List Int)} (h : rateB r = true) (h0 : xss.length = 0) : chkS r xss = 9 := by simp [chkS, h, h0]
theorem chkS_big {r : Int} {xss : List (List Int)} (h : rateB r = true) (h0 : 0 < xss.length) (hb : 16 < xss.length ∨ 100000 < len0 xss) : chkS r xss = 2 := by
  unfold chkS
  rw [if_neg (by simp [h]), if_neg (by omega), if_pos (by omega)]
theorem chkS_rows {r : Int} {xss : List (List Int)} (h : rateB r = true) (h0 : 0 < xss.length) (hb : xss.length ≤ 16) (hm : len0 xss ≤ 100000) : chkS r xss = chkT (len0 xss) xss := by
  unfold chkS
  rw [if_neg (by simp [h]), if_neg (by omega), if_neg (by omega)]
theorem all_take {p : Int → Bool} {l : List Int} {j : Nat} (h : (l.take j).all p = true) (hj : j < l.length) (hp : p (elOf l j) = true) : (l.take (j + 1)).all p = true := by
  rw [List.take_succ_eq_append_getElem hj, List.all_append, h]
  simp [elOf, List.getD, List.getElem?_eq_getElem hj] at hp
  simp [hp]
def cutXs (p q : Int) (xss : List (List Int)) : List (List Int) := xss.map fun x => (x.drop p.toNat).take (q.toNat - p.toNat)
theorem cutXs_length (p q : Int) (xss : List (List Int)) : (cutXs p q xss).length = xss.length := by simp [cutXs]
theorem cutXs_take {p q : Int} {xss : List (List Int)} {k : Nat} (hk : k < xss.length) : cutXs p q (xss.take (k + 1)) = cutXs p q (xss.take k) ++ [((rowOf xss k).drop p.toNat).take (q.toNat - p.toNat)] := by
  unfold cutXs
  rw [List.take_succ_eq_append_getElem hk, List.map_append]
  simp [rowOf, List.getD, List.getElem?_eq_getElem hk]
def cutF (p q : Int) (m : Nat) : Int := if p < 0 ∨ q < p ∨ (m : Int) < q then 1 else 0
theorem cutF_bad {p q : Int} {m : Nat} (h : p < 0 ∨ q < p ∨ (m : Int) < q) : cutF p q m = 1 := if_pos h
theorem cutF_ok {p q : Int} {m : Nat} (h1 : ¬ p < 0) (h2 : ¬ q < p) (h3 : ¬ (m : Int) < q) : cutF p q m = 0 := if_neg (by omega)
theorem cutF_zero {p q : Int} {m : Nat} (h : cutF p q m = 0) : 0 ≤ p ∧ p ≤ q ∧ q ≤ (m : Int) := by
  unfold cutF at h
  split at h
  · cases h
  · omega
theorem smpB_yes {x : Int} (h : smpB x = true) : -8388608 ≤ x ∧ x ≤ 8388607 := by simpa [smpB] using h
theorem smpB_no {x : Int} (h : smpB x = false) : x < -8388608 ∨ 8388607 < x := by
  simp only [smpB, Bool.and_eq_false_iff, decide_eq_false_iff_not] at h; omega
theorem smpB_mk {x : Int} (h1 : -8388608 ≤ x) (h2 : x ≤ 8388607) : smpB x = true := by simp [smpB, h1, h2]
theorem chkT_zero {m : Nat} : ∀ {xss : List (List Int)}, chkT m xss = 0 → ∀ t ∈ xss, t.length = m ∧ t.all smpB = true
  | [], _, t, ht => by cases ht
  | t0 :: ts, h, t, ht => by
    unfold chkT at h
    split at h
    · cases h
    · rename_i hl
      split at h
      · rename_i ha
        rcases List.mem_cons.1 ht with e | ht'
        · subst e; exact ⟨by omega, ha⟩
        · exact chkT_zero h t ht'
      · cases h
/-- a sound that is right -/
structure OkS (r : Int) (xss : List (List Int)) : Prop where
  rate : rateB r = true
  some : 0 < xss.length
  few : xss.length ≤ 16
  long : len0 xss ≤ 100000
  rows : ∀ t ∈ xss, t.length = len0 xss ∧ t.all smpB = true
theorem chkS_ok {r : Int} {xss : List (List Int)} (h : chkS r xss = 0) : OkS r xss := by
  unfold chkS at h
  split at h
  · cases h
  · rename_i h1
    split at h
    · cases h
    · rename_i h2
      split at h
      · cases h
      · rename_i h3
        exact ⟨by simpa using h1, by omega, by omega, by omega, chkT_zero h⟩
theorem OkS.row {r : Int} {xss : List (List Int)} (h : OkS r xss) {k : Nat} (hk : k < xss.length) : (rowOf xss k).length = len0 xss ∧ (rowOf xss k).all smpB = true := by
  refine h.rows _ ?_
  simp only [rowOf, List.getD, List.getElem?_eq_getElem hk, Option.getD_some]
  exact List.getElem_mem hk
theorem OkS.el {r : Int} {xss : List (List Int)} (h : OkS r xss) {k j : Nat} (hk : k < xss.length) (hj : j < len0 xss) : -8388608 ≤ elOf (rowOf xss k) j ∧ elOf (rowOf xss k) j ≤ 8388607 := by
  have hr := h.row hk
  refine smpB_yes (List.all_eq_true.1 hr.2 _ ?_)
  have hj' : j < (rowOf xss k).length := by omega
  simp only [elOf, List.getD, List.getElem?_eq_getElem hj', Option.getD_some]
  exact List.getElem_mem hj'
def absI (x : Int) : Int := max x (-x)
def pkRow (m : Int) (xs : List Int) : Int := xs.foldl (fun m x => max m (absI x)) m
def pkS (m : Int) (xss : List (List Int)) : Int := xss.foldl pkRow m
theorem take_el {xs : List Int} {j : Nat} (hj : j < xs.length) : xs.take (j + 1) = xs.take j ++ [elOf xs j] := by
  rw [List.take_succ_eq_append_getElem hj]; simp [elOf, List.getD, List.getElem?_eq_getElem hj]
theorem take_row {xss : List (List Int)} {k : Nat} (hk : k < xss.length) : xss.take (k + 1) = xss.take k ++ [rowOf xss k] := by
  rw [List.take_succ_eq_append_getElem hk]; simp [rowOf, List.getD, List.getElem?_eq_getElem hk]
theorem pkRow_take {m : Int} {xs : List Int} {j : Nat} (hj : j < xs.length) : pkRow m (xs.take (j + 1)) = max (pkRow m (xs.take j)) (absI (elOf xs j)) := by
  rw [take_el hj, pkRow, List.foldl_append]; rfl
theorem pkS_take {m : Int} {xss : List (List Int)} {k : Nat} (hk : k < xss.length) : pkS m (xss.take (k + 1)) = pkRow (pkS m (xss.take k)) (rowOf xss k) := by
  rw [take_row hk, pkS, List.foldl_append]; rfl
theorem pkRow_bd : ∀ {xs : List Int} {m : Int}, 0 ≤ m → m ≤ 8388608 → (∀ x ∈ xs, smpB x = true) → 0 ≤ pkRow m xs ∧ pkRow m xs ≤ 8388608
  | [], m, h0, h1, _ => ⟨h0, h1⟩
  | x :: xs, m, h0, h1, h => by
    have hx := smpB_yes (h x (by simp))
    refine pkRow_bd (xs := xs) (m := max m (absI x)) ?_ ?_ (fun y hy => h y (by simp [hy]))
    · omega
    · unfold absI; omega
theorem pkS_bd : ∀ {xss : List (List Int)} {m : Int}, 0 ≤ m → m ≤ 8388608 → (∀ t ∈ xss, ∀ x ∈ t, smpB x = true) → 0 ≤ pkS m xss ∧ pkS m xss ≤ 8388608
  | [], m, h0, h1, _ => ⟨h0, h1⟩
  | t :: ts, m, h0, h1, h => by
    have hb := pkRow_bd (xs := t) h0 h1 (h t (by simp))
    exact pkS_bd (xss := ts) (m := pkRow m t) hb.1 hb.2 (fun u hu => h u (by simp [hu]))
theorem OkS.smp {r : Int} {xss : List (List Int)} (h : OkS r xss) : ∀ t ∈ xss, ∀ x ∈ t, smpB x = true := fun t ht => List.all_eq_true.1 (h.rows t ht).2
theorem OkS.pk {r : Int} {xss : List (List Int)} (h : OkS r xss) (k : Nat) : 0 ≤ pkS 0 (xss.take k) ∧ pkS 0 (xss.take k) ≤ 8388608 :=
  pkS_bd (by omega) (by omega) (fun t ht => h.smp t (List.mem_of_mem_take ht))
theorem OkS.pkr {r : Int} {xss : List (List Int)} (h : OkS r xss) {k : Nat} (hk : k < xss.length) (j : Nat) : 0 ≤ pkRow (pkS 0 (xss.take k)) ((rowOf xss k).take j) ∧ pkRow (pkS 0 (xss.take k)) ((rowOf xss k).take j) ≤ 8388608 :=
  pkRow_bd (h.pk k).1 (h.pk k).2 (fun x hx => List.all_eq_true.1 (h.row hk).2 x (List.mem_of_mem_take hx))
def zeroS (T n : Nat) : List (List Int) := List.replicate T (List.replicate n 0)
def zeroK (T n k : Nat) : List (List Int) := List.replicate k (List.replicate n 0) ++ List.replicate (T - k) []
theorem zeroK_length {T n k : Nat} (hk : k ≤ T) : (zeroK T n k).length = T := by simp [zeroK]; omega
theorem zeroK_start (T n : Nat) : zeroK T n 0 = List.replicate T [] := by simp [zeroK]
theorem zeroK_end (T n : Nat) : zeroK T n T = zeroS T n := by simp [zeroK, zeroS]
theorem zeroK_step {T n k : Nat} (hk : k < T) : (zeroK T n k).set k (List.replicate n 0) = zeroK T n (k + 1) := by
  apply List.ext_getElem?
  intro i
  simp only [zeroK, List.getElem?_set, List.getElem?_append, List.getElem?_replicate, List.length_append, List.length_replicate]
  repeat' split
  all_goals first | rfl | (exfalso; omega)
theorem zeroS_length (T n : Nat) : (zeroS T n).length = T := by simp [zeroS]
theorem zeroS_row {T n k : Nat} (hk : k < T) : rowOf (zeroS T n) k = List.replicate n 0 := by simp [rowOf, zeroS, List.getD, hk]
def silB (r T n : Int) : Bool := rateB r && decide (1 ≤ T) && decide (T ≤ 16) && decide (0 ≤ n) && decide (n ≤ 100000)
def silS (r T n : Int) : Int × List (List Int) × Int := if silB r T n then (r, zeroS T.toNat n.toNat, 0) else (0, [], 1)
/-- each: after the rows below t, and i elements of row t -/
def eachK (f : Int → Int) (xss : List (List Int)) (m t i : Nat) : List (List Int) := (List.range xss.length).map fun a => if a < t then (rowOf xss a).map f else if a = t then ((rowOf xss a).take i).map f ++ List.replicate (m - i) 0 else List.replicate m 0
theorem eachK_length {f : Int → Int} {xss : List (List Int)} {m t i : Nat} : (eachK f xss m t i).length = xss.length := by simp [eachK]
theorem eachK_row {f : Int → Int} {xss : List (List Int)} {m t i a : Nat} (ha : a < xss.length) : rowOf (eachK f xss m t i) a = if a < t then (rowOf xss a).map f else if a = t then ((rowOf xss a).take i).map f ++ List.replicate (m - i) 0 else List.replicate m 0 := by
  simp [eachK, rowOf, List.getD, ha]
theorem ext_rows {xss yss : List (List Int)} (h : xss.length = yss.length) (hr : ∀ a, a < xss.length → rowOf xss a = rowOf yss a) : xss = yss := by
  apply List.ext_getElem h
  intro i h1 h2
  have := hr i h1
  simpa [rowOf, List.getD, List.getElem?_eq_getElem h1, List.getElem?_eq_getElem h2] using this
theorem eachK_start (f : Int → Int) (xss : List (List Int)) (m : Nat) : eachK f xss m 0 0 = zeroS xss.length m := by
  refine ext_rows (by simp [eachK_length, zeroS]) (fun a ha => ?_)
  rw [eachK_length] at ha
  rw [eachK_row ha, zeroS_row ha, if_neg (by omega)]
  split
  · simp
  · rfl
theorem eachK_next {f : Int → Int} {xss : List (List Int)} {m t : Nat} (hm : ∀ a, a < xss.length → (rowOf xss a).length = m) : eachK f xss m t m = eachK f xss m (t + 1) 0 := by
  refine ext_rows (by simp [eachK_length]) (fun a ha => ?_)
  rw [eachK_length] at ha
  have hl := hm a ha
  rw [eachK_row ha, eachK_row ha]
  by_cases h1 : a < t
  · rw [if_pos h1, if_pos (by omega)]
  · rw [if_neg h1]
    by_cases h2 : a = t
    · rw [if_pos h2, if_pos (by omega), List.take_of_length_le (by omega)]; simp
    · rw [if_neg h2, if_neg (by omega)]
      split <;> simp
theorem eachK_end {f : Int → Int} {xss : List (List Int)} {m : Nat} : eachK f xss m xss.length 0 = xss.map (List.map f) := by
  refine ext_rows (by simp [eachK_length]) (fun a ha => ?_)
  rw [eachK_length] at ha
  rw [eachK_row ha, if_pos ha]
  simp [rowOf, List.getD, ha]
theorem eachK_step {f : Int → Int} {xss : List (List Int)} {m t i : Nat} (ht : t < xss.length) (hm : (rowOf xss t).length = m) (hi : i < m) :
    (eachK f xss m t i).set t ((rowOf (eachK f xss m t i) t).set i (f (elOf (rowOf xss t) i))) = eachK f xss m t (i + 1) := by
  refine ext_rows (by simp [eachK_length]) (fun a ha => ?_)
  simp only [List.length_set, eachK_length] at ha
  have hset : rowOf ((eachK f xss m t i).set t ((rowOf (eachK f xss m t i) t).set i (f (elOf (rowOf xss t) i)))) a = if a = t then (rowOf (eachK f xss m t i) t).set i (f (elOf (rowOf xss t) i)) else rowOf (eachK f xss m t i) a := by
    unfold rowOf
    by_cases h : a = t
    · subst h; simp [List.getD, eachK_length, ht]
    · rw [if_neg h]; simp [List.getD, List.getElem?_set_ne (Ne.symm h)]
  rw [hset]
  by_cases h : a = t
  · subst h
    rw [if_pos rfl, eachK_row ht, eachK_row ht, if_neg (by omega), if_pos rfl, if_neg (by omega), if_pos rfl]
    have hi' : i < (rowOf xss a).length := by omega
    rw [take_el hi', List.map_append]
    have hlen : (((rowOf xss a).take i).map f).length = i := by simp; omega
    rw [List.set_append_right _ _ (by omega), hlen, Nat.sub_self]
    have : m - i = (m - (i + 1)) + 1 := by omega
    rw [this, List.replicate_succ, List.set_cons_zero]
    simp
  · rw [if_neg h, eachK_row ha, eachK_row ha]
    by_cases h1 : a < t
    · rw [if_pos h1, if_pos h1]
    · rw [if_neg h1, if_neg h1, if_neg h, if_neg h]
/-- a state that goes through all elements, row by row -/
def stR {σ : Type} (u : σ → Int → σ) (s : σ) (xs : List Int) : σ := xs.foldl u s
def stS {σ : Type} (u : σ → Int → σ) (s : σ) (xss : List (List Int)) : σ := xss.foldl (stR u) s
theorem stR_take {σ : Type} {u : σ → Int → σ} {s : σ} {xs : List Int} {j : Nat} (hj : j < xs.length) : stR u s (xs.take (j + 1)) = u (stR u s (xs.take j)) (elOf xs j) := by
  rw [take_el hj, stR, List.foldl_append]; rfl
theorem stS_take {σ : Type} {u : σ → Int → σ} {s : σ} {xss : List (List Int)} {k : Nat} (hk : k < xss.length) : stS u s (xss.take (k + 1)) = stR u (stS u s (xss.take k)) (rowOf xss k) := by
  rw [take_row hk, stS, List.foldl_append]; rfl
/-- a / b rounded to the nearest, halves away from 0 -/
def nearP (a b : Int) : Int := (2 * a + b) / (2 * b)
def nearI (a b : Int) : Int := if a < 0 then -nearP (-a) b else nearP a b
theorem nearP_split {a b : Int} (ha : 0 ≤ a) (hb : 0 < b) : nearP a b = if b - a % b ≤ a % b then a / b + 1 else a / b := by
  unfold nearP
  have h1 := Int.emod_add_mul_ediv a b
  have h2 := Int.emod_nonneg a (show b ≠ 0 by omega)
  have h3 := Int.emod_lt_of_pos a hb
  have e : 2 * a + b = (2 * (a % b) + b) + 2 * b * (a / b) := by rw [Int.mul_assoc]; omega
  rw [e, Int.add_mul_ediv_left _ _ (show 2 * b ≠ 0 by omega)]
  split
  · have : (2 * (a % b) + b) / (2 * b) = 1 := by
      rw [show 2 * (a % b) + b = (2 * (a % b) + b - 2 * b) + 2 * b * 1 by omega, Int.add_mul_ediv_left _ _ (show 2 * b ≠ 0 by omega), Int.ediv_eq_zero_of_lt (by omega) (by omega)]
      omega
    omega
  · have : (2 * (a % b) + b) / (2 * b) = 0 := Int.ediv_eq_zero_of_lt (by omega) (by omega)
    omega
theorem nearP_bd {a b : Int} (ha : 0 ≤ a) (hb : 0 < b) : 0 ≤ nearP a b ∧ nearP a b ≤ a := by
  rw [nearP_split ha hb]
  have h2 := Int.emod_nonneg a (show b ≠ 0 by omega)
  have h3 := Int.emod_lt_of_pos a hb
  have h4 : 0 ≤ a / b := Int.ediv_nonneg ha (by omega)
  have h5 : a / b ≤ a := Int.ediv_le_self _ ha
  have h1 := Int.emod_add_mul_ediv a b
  split
  · refine ⟨by omega, ?_⟩
    rcases Int.lt_or_eq_of_le h5 with h | h
    · omega
    · exfalso
      by_cases hb1 : b = 1
      · subst hb1; omega
      · have : 2 * (a / b) ≤ b * (a / b) := Int.mul_le_mul_of_nonneg_right (by omega) h4
        omega
  · exact ⟨h4, h5⟩
end Go.Dw
