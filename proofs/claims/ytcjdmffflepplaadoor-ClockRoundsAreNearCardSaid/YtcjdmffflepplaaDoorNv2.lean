/- Long division, digit by digit: plain arithmetic, no program in sight. -/
import Derived.Test.YtcjdmffflepplaaDoorNv
set_option linter.unusedSimpArgs false
set_option linter.unusedVariables false
namespace Go.Dw
/-- u - q v, a digit of it: ca is carried, bo is borrowed -/
theorem dstep_digit {b i q ca bo c2 lo d bo' ca' : Nat} {M us vs : List Nat} (hM : i < M.length) (hc : c2 = ca + q * vs.getD i 0) (hl : c2 = lo + b * ca') (hw : d + lo + bo = us.getD i 0 + b * bo')
    (hI : valB b (M.take i) + q * valB b (vs.take i) = valB b (us.take i) + b ^ i * (ca + bo)) (h2 : b ^ i * ca ≤ q * valB b (vs.take i)) :
    valB b ((M.set i d).take (i + 1)) + q * valB b (vs.take (i + 1)) = valB b (us.take (i + 1)) + b ^ (i + 1) * (ca' + bo') ∧ b ^ (i + 1) * ca' ≤ q * valB b (vs.take (i + 1)) := by
  have e1 : q * valB b (vs.take (i + 1)) = q * valB b (vs.take i) + b ^ i * (q * vs.getD i 0) := by
    rw [valB_take_succ', Nat.mul_add, Nat.mul_left_comm]
  have e2 : valB b ((M.set i d).take (i + 1)) = valB b (M.take i) + b ^ i * d := by
    rw [take_set_succ M _ hM, valB_snoc, List.length_take, Nat.min_eq_left (by omega)]
  have e3 : valB b (us.take (i + 1)) = valB b (us.take i) + b ^ i * us.getD i 0 := valB_take_succ' _ _ _
  have e4 : b ^ i * (d + lo + bo) = b ^ i * (us.getD i 0 + b * bo') := by rw [hw]
  have e5 : b ^ i * (ca + q * vs.getD i 0) = b ^ i * (lo + b * ca') := by rw [← hc, hl]
  have e6 : b ^ (i + 1) * (ca' + bo') = b ^ i * (b * ca') + b ^ i * (b * bo') := by rw [Nat.pow_succ, Nat.mul_assoc, Nat.mul_add, Nat.mul_add]
  have e7 : b ^ (i + 1) * ca' = b ^ i * (b * ca') := by rw [Nat.pow_succ, Nat.mul_assoc]
  simp only [Nat.mul_add] at e4 e5 hI
  exact ⟨by omega, by omega⟩
/-- behind all digits: nothing is carried -/
theorem dstep_end {b n q ca bo U V : Nat} {M : List Nat} (hq : q < b) (hV : V < b ^ n) (hI : valB b M + q * V = U + b ^ (n + 1) * (ca + bo)) (h2 : b ^ (n + 1) * ca ≤ q * V) :
    valB b M + q * V = U + b ^ (n + 1) * bo := by
  have h3 : q * V < b * b ^ n := by
    have h4 := Nat.mul_le_mul (show q + 1 ≤ b from hq) (show V + 1 ≤ b ^ n from hV)
    rw [Nat.add_mul, Nat.mul_add] at h4
    omega
  rw [Nat.mul_comm b, ← Nat.pow_succ] at h3
  have h5 : ca = 0 := by
    refine Classical.byContradiction fun h => ?_
    have := Nat.mul_le_mul_left (b ^ (n + 1)) (show 1 ≤ ca by omega)
    have e : n.succ = n + 1 := rfl
    rw [e] at h3
    omega
  rw [h5, Nat.zero_add] at hI
  exact hI
theorem dstep_yes {b n q U V : Nat} {M : List Nat} (hV : 0 < V) (hI : valB b M + q * V = U + b ^ (n + 1) * 0) (hle : U / V ≤ q) : q = U / V ∧ valB b M = U % V := by
  have h1 : q ≤ U / V := (Nat.le_div_iff_mul_le hV).2 (by omega)
  have h2 : q = U / V := by omega
  refine ⟨h2, ?_⟩
  have h3 := Nat.div_add_mod U V
  rw [← h2, Nat.mul_comm] at h3
  omega
theorem dstep_no {b n q U V : Nat} {M : List Nat} (hM : valB b M < b ^ (n + 1)) (hV : 0 < V) (hI : valB b M + q * V = U + b ^ (n + 1) * 1) (hle : U / V ≤ q) : 0 < q ∧ U / V ≤ q - 1 := by
  have h1 : U < q * V := by omega
  have h2 : U / V < q := (Nat.div_lt_iff_lt_mul hV).2 h1
  exact ⟨Nat.lt_of_le_of_lt (Nat.zero_le _) h2, Nat.le_sub_one_of_lt h2⟩
/-- the first guess of a digit is not too small -/
theorem quot_est {b n : Nat} {us vs : List Nat} (hb : 0 < b) (hu : us.length = n + 2) (hv : vs.length = n + 1) (du : DigN b us) (h0 : 0 < vs.getD n 0) :
    valB b us / valB b vs ≤ (us.getD n 0 + b * us.getD (n + 1) 0) / vs.getD n 0 := by
  have eU : valB b us = valB b (us.take n) + b ^ n * (us.getD n 0 + b * us.getD (n + 1) 0) := by
    rw [valB_split b us (k := n) (by omega), valB_drop b us (by omega), valB_drop b us (by omega), List.drop_of_length_le (by omega)]
    simp [valB]
  have eV : valB b vs = valB b (vs.take n) + b ^ n * vs.getD n 0 := by
    rw [valB_split b vs (k := n) (by omega), valB_drop b vs (by omega), List.drop_of_length_le (by omega)]
    simp [valB]
  have hp := Nat.pow_pos (n := n) hb
  have hlt := valB_lt (du.take n)
  rw [List.length_take, Nat.min_eq_left (by omega)] at hlt
  rw [Nat.le_div_iff_mul_le h0]
  have h1 := Nat.div_mul_le_self (valB b us) (valB b vs)
  generalize valB b us / valB b vs = q at h1 ⊢
  generalize us.getD n 0 + b * us.getD (n + 1) 0 = t at eU ⊢
  generalize vs.getD n 0 = v at eV h0 ⊢
  rw [eU, eV] at h1
  have h2 : b ^ n * (q * v) < b ^ n * (t + 1) := by
    have e : q * (valB b (vs.take n) + b ^ n * v) = q * valB b (vs.take n) + b ^ n * (q * v) := by rw [Nat.mul_add, Nat.mul_left_comm]
    rw [e] at h1
    rw [Nat.mul_add]
    omega
  have h3 := Nat.lt_of_mul_lt_mul_left h2
  omega
theorem quot_top {b U V : Nat} (h : U < V * b) (hV : 0 < V) : U / V ≤ b - 1 := by
  have : U / V < b := (Nat.div_lt_iff_lt_mul hV).2 (by rw [Nat.mul_comm]; exact h)
  omega
/-- a piece of a row is put into its place -/
def putN (L : List Nat) (j : Nat) (M : List Nat) : List Nat := L.take j ++ (M ++ L.drop (j + M.length))
theorem putN_length {L M : List Nat} {j : Nat} (h : j + M.length ≤ L.length) : (putN L j M).length = L.length := by simp [putN]; omega
theorem putN_dig {b : Nat} {L M : List Nat} {j : Nat} (h : DigN b L) (k : DigN b M) : DigN b (putN L j M) := (h.take j).append (k.append (h.drop _))
theorem putN_drop {L M : List Nat} {j : Nat} (h : j + M.length ≤ L.length) : (putN L j M).drop j = M ++ L.drop (j + M.length) := by
  unfold putN
  rw [List.drop_append, List.drop_of_length_le (by simp; omega)]
  simp [Nat.min_eq_left (show j ≤ L.length by omega)]
theorem putN_val {b : Nat} {L M : List Nat} {j : Nat} (h : j + M.length ≤ L.length) : valB b (putN L j M) + b ^ j * valB b ((L.drop j).take M.length) = valB b L + b ^ j * valB b M := by
  have e1 : valB b (putN L j M) = valB b (L.take j) + b ^ j * (valB b M + b ^ M.length * valB b (L.drop (j + M.length))) := by
    unfold putN
    rw [valB_append, valB_append, List.length_take, Nat.min_eq_left (by omega)]
  have e2 : valB b L = valB b (L.take j) + b ^ j * (valB b ((L.drop j).take M.length) + b ^ M.length * valB b (L.drop (j + M.length))) := by
    rw [valB_split b L (k := j) (by omega), valB_split b (L.drop j) (k := M.length) (by simp; omega), List.drop_drop]
  rw [e1, e2]
  simp only [Nat.mul_add]
  omega
end Go.Dw
