/- The plain functions of chapter 2, continued: Cross. No program in sight. -/
import Derived.Test.YtpnbkkpbgpcgiaaMix0
set_option linter.unusedSimpArgs false
set_option linter.unusedVariables false
namespace Go.Dw
/-- element i of track k of a and b crossed with m samples of both at the same places; la: the length of a -/
def crV (xss yss : List (List Int)) (la m : Nat) (sh : Int) (k i : Nat) : Int :=
  if i < la - m then elOf (rowOf xss k) i
  else if i < la then nearI (elOf (rowOf xss k) i * facS sh ((m : Int) - 1 - ((i : Int) - ((la : Int) - m))) m + elOf (rowOf yss k) (i - (la - m)) * facS sh ((i : Int) - ((la : Int) - m)) m) (((m : Int) + 1) * ((m : Int) + 1))
  else elOf (rowOf yss k) (i - (la - m))
def crT (xss yss : List (List Int)) (m : Nat) (sh : Int) : List (List Int) := mtx (crV xss yss (len0 xss) m sh) xss.length (len0 xss + len0 yss - m)
theorem crV_a {xss yss : List (List Int)} {la m : Nat} {sh : Int} {k i : Nat} (h : i < la - m) : crV xss yss la m sh k i = elOf (rowOf xss k) i := if_pos h
theorem crV_b {xss yss : List (List Int)} {la m : Nat} {sh : Int} {k i : Nat} (hm : m ≤ la) (h : la ≤ i) : crV xss yss la m sh k i = elOf (rowOf yss k) (i - (la - m)) := by
  unfold crV; rw [if_neg (by omega), if_neg (by omega)]
theorem crV_x {xss yss : List (List Int)} {la m : Nat} {sh : Int} {k j : Nat} (hm : m ≤ la) (hj : j < m) :
    crV xss yss la m sh k (la - m + j) = nearI (elOf (rowOf xss k) (la - m + j) * facS sh ((m : Int) - 1 - j) m + elOf (rowOf yss k) j * facS sh j m) (((m : Int) + 1) * ((m : Int) + 1)) := by
  unfold crV
  rw [if_neg (by omega), if_pos (by omega)]
  have e1 : ((la - m + j : Nat) : Int) - ((la : Int) - m) = j := by omega
  have e2 : la - m + j - (la - m) = j := by omega
  rw [e1, e2]
/-- what is in range is not counted -/
theorem clipN_smp {x : Int} (h1 : -8388608 ≤ x) (h2 : x ≤ 8388607) : clipN x = 0 ∧ clipV x = x := by
  unfold clipN clipV
  rw [if_neg (by omega), if_neg (by omega), if_neg (by omega), if_neg (by omega)]
  exact ⟨rfl, rfl⟩
theorem cntK_skip {T : List (List Int)} {k a b : Nat} (hab : a ≤ b) (hb : b ≤ (rowOf T k).length) (h : ∀ i, a ≤ i → i < b → clipN (elOf (rowOf T k) i) = 0) : cntK T k a = cntK T k b := by
  obtain ⟨d, rfl⟩ : ∃ d, b = a + d := ⟨b - a, by omega⟩
  clear hab
  induction d with
  | zero => rfl
  | succ d ih =>
    rw [ih (by omega) (fun i h1 h2 => h i h1 (by omega)), ← Nat.add_assoc, cntK_step (by omega), h (a + d) (by omega) (by omega), Int.add_zero]
/-- the sum of two products of samples and factors -/
theorem cross_bd {x y f g d : Int} (hx1 : -8388608 ≤ x) (hx2 : x ≤ 8388607) (hy1 : -8388608 ≤ y) (hy2 : y ≤ 8388607) (hf : 0 ≤ f) (hf2 : f ≤ d) (hg : 0 ≤ g) (hg2 : g ≤ d) (hd : d ≤ 10000200001) :
    -84000000000000000 ≤ x * f ∧ x * f ≤ 84000000000000000 ∧ -84000000000000000 ≤ y * g ∧ y * g ≤ 84000000000000000 := by
  have h1 := fade_bd hx1 hx2 hf hf2 hd
  have h2 := fade_bd hy1 hy2 hg hg2 hd
  exact ⟨h1.1, h1.2, h2.1, h2.2⟩
/-- a constant that is crossed with itself by straight lines stays what it is -/
theorem cross_const {x j m : Int} (h0 : 0 ≤ j) (h : j < m) : nearI (x * facS 1 (m - 1 - j) m + x * facS 1 j m) ((m + 1) * (m + 1)) = x := by
  have e : x * facS 1 (m - 1 - j) m + x * facS 1 j m = x * ((m + 1) * (m + 1)) := by
    have f1 : facS 1 (m - 1 - j) m = (m - 1 - j + 1) * (m + 1) := if_pos rfl
    have f2 : facS 1 j m = (j + 1) * (m + 1) := if_pos rfl
    rw [f1, f2, ← Int.mul_add, ← Int.add_mul]
    congr 2
    omega
  rw [e]
  exact near_self (by have := sq_le (a := 1) (b := m + 1) (by omega) (by omega); omega)
def crF (m : Int) (la lb : Nat) : Int := if m < 0 ∨ (la : Int) < m ∨ (lb : Int) < m then 1 else 0
end Go.Dw
