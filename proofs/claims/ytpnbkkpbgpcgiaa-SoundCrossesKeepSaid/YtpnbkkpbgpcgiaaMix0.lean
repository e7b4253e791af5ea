/- The plain functions of chapter 2, continued: clipping; Mix. No program in sight. -/
import Derived.Test.YtpnbkkpbgpcgiaaSpecF
set_option linter.unusedSimpArgs false
set_option linter.unusedVariables false
namespace Go.Dw
def clipV (x : Int) : Int := if 8388607 < x then 8388607 else if x < -8388608 then -8388608 else x
def clipN (x : Int) : Int := if 8388607 < x then 1 else if x < -8388608 then 1 else 0
def clipU (c x : Int) : Int := c + clipN x
theorem clipN_bd (x : Int) : 0 ≤ clipN x ∧ clipN x ≤ 1 := by unfold clipN; (repeat' split) <;> omega
theorem clipV_bd (x : Int) : -8388608 ≤ clipV x ∧ clipV x ≤ 8388607 := by unfold clipV; (repeat' split) <;> omega
theorem clipR_bd (xs : List Int) : ∀ c : Int, c ≤ stR clipU c xs ∧ stR clipU c xs ≤ c + xs.length := by
  induction xs with
  | nil => intro c; exact ⟨Int.le_refl _, by simp [stR]⟩
  | cons x xs ih =>
    intro c
    have h := ih (clipU c x)
    have b := clipN_bd x
    show c ≤ stR clipU (clipU c x) xs ∧ stR clipU (clipU c x) xs ≤ _
    unfold clipU at h ⊢
    rw [List.length_cons]
    exact ⟨by omega, by omega⟩
theorem clipS_bd {m : Nat} (xss : List (List Int)) (hm : ∀ t ∈ xss, t.length = m) : ∀ c : Int, c ≤ stS clipU c xss ∧ stS clipU c xss ≤ c + (xss.length : Int) * m := by
  induction xss with
  | nil => intro c; exact ⟨Int.le_refl _, by simp [stS]⟩
  | cons t ts ih =>
    intro c
    have h := ih (fun u hu => hm u (by simp [hu])) (stR clipU c t)
    have b := clipR_bd t c
    rw [hm t (by simp)] at b
    show c ≤ stS clipU (stR clipU c t) ts ∧ stS clipU (stR clipU c t) ts ≤ _
    rw [List.length_cons, Int.natCast_add, Int.add_mul]
    exact ⟨by omega, by omega⟩
/-- the sums, before they are clipped -/
def sumV (xss yss : List (List Int)) (k i : Nat) : Int := elOf (rowOf xss k) i + elOf (rowOf yss k) i
def mtx (f : Nat → Nat → Int) (n m : Nat) : List (List Int) := (List.range n).map fun k => (List.range m).map (f k)
theorem mtx_length {f : Nat → Nat → Int} {n m : Nat} : (mtx f n m).length = n := by simp [mtx]
theorem mtx_row {f : Nat → Nat → Int} {n m k : Nat} (hk : k < n) : rowOf (mtx f n m) k = (List.range m).map (f k) := by simp [mtx, rowOf, List.getD, hk]
theorem mtx_len {f : Nat → Nat → Int} {n m k : Nat} (hk : k < n) : (rowOf (mtx f n m) k).length = m := by rw [mtx_row hk]; simp
theorem mtx_el {f : Nat → Nat → Int} {n m k i : Nat} (hk : k < n) (hi : i < m) : elOf (rowOf (mtx f n m) k) i = f k i := by rw [mtx_row hk]; simp [elOf, List.getD, hi]
theorem mtx_rows {f : Nat → Nat → Int} {n m : Nat} : ∀ t ∈ mtx f n m, t.length = m := by
  intro t ht
  obtain ⟨k, _, rfl⟩ := List.mem_map.1 ht
  simp
/-- how many of the elements ahead of place (k, j) were clipped -/
def cntK (T : List (List Int)) (k j : Nat) : Int := stR clipU (stS clipU 0 (T.take k)) ((rowOf T k).take j)
theorem cntK_zero (T : List (List Int)) : cntK T 0 0 = 0 := by simp [cntK, stS, stR]
theorem cntK_next {T : List (List Int)} {k m : Nat} (hk : k < T.length) (hm : (rowOf T k).length = m) : cntK T k m = cntK T (k + 1) 0 := by
  unfold cntK
  rw [List.take_of_length_le (l := rowOf T k) (by omega), stS_take hk]
  simp [stR]
theorem cntK_step {T : List (List Int)} {k j : Nat} (hj : j < (rowOf T k).length) : cntK T k (j + 1) = cntK T k j + clipN (elOf (rowOf T k) j) := by
  unfold cntK
  rw [stR_take hj]
  rfl
theorem cntK_all {T : List (List Int)} {n : Nat} (h : T.length = n) : cntK T n 0 = stS clipU 0 T := by
  unfold cntK; rw [List.take_of_length_le (by omega)]; simp [stR]
theorem cntK_bd {T : List (List Int)} {m k j : Nat} (hm : ∀ t ∈ T, t.length = m) (hT : T.length ≤ 16) (hk : k ≤ T.length) (hm2 : m ≤ 200000) : 0 ≤ cntK T k j ∧ cntK T k j ≤ 4000000 := by
  have h1 := clipS_bd (m := m) (T.take k) (fun t ht => hm t (List.mem_of_mem_take ht)) 0
  have h2 := clipR_bd ((rowOf T k).take j) (stS clipU 0 (T.take k))
  have h3 : ((T.take k).length : Int) * m ≤ 16 * 200000 := Int.mul_le_mul (by rw [List.length_take]; omega) (by omega) (by omega) (by omega)
  have h4 : ((rowOf T k).take j).length ≤ 200000 := by
    rw [List.length_take]
    by_cases hk' : k < T.length
    · have := hm (rowOf T k) (by simp only [rowOf, List.getD, List.getElem?_eq_getElem hk', Option.getD_some]; exact List.getElem_mem hk')
      omega
    · have : rowOf T k = [] := by simp [rowOf, List.getD, Nat.not_lt.1 hk']
      rw [this]; simp
  unfold cntK
  omega
/-- Mix -/
def mixT (xss yss : List (List Int)) : List (List Int) := mtx (sumV xss yss) xss.length (max (len0 xss) (len0 yss))
def clipS (T : List (List Int)) : List (List Int) := T.map (List.map clipV)
theorem clipS_el {T : List (List Int)} {k i : Nat} (hk : k < T.length) (hi : i < (rowOf T k).length) : elOf (rowOf (clipS T) k) i = clipV (elOf (rowOf T k) i) := by
  have : rowOf (clipS T) k = (rowOf T k).map clipV := by simp [clipS, rowOf, List.getD, hk]
  rw [this]; simp [elOf, List.getD, hi]
theorem clipS_length (T : List (List Int)) : (clipS T).length = T.length := by simp [clipS]
theorem clipS_len {T : List (List Int)} {k : Nat} (hk : k < T.length) : (rowOf (clipS T) k).length = (rowOf T k).length := by
  have : rowOf (clipS T) k = (rowOf T k).map clipV := by simp [clipS, rowOf, List.getD, hk]
  rw [this]; simp
theorem elOf_ge {xs : List Int} {i : Nat} (h : xs.length ≤ i) : elOf xs i = 0 := by simp [elOf, List.getD, h]
end Go.Dw
