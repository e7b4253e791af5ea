/- Long division as a whole: plain arithmetic, no program in sight. -/
import Derived.Test.YtcjdmffflepplaaDoorNv2
set_option linter.unusedSimpArgs false
set_option linter.unusedVariables false
namespace Go.Dw
theorem valB_drop_div {b : Nat} {l : List Nat} (hb : 0 < b) (h : DigN b l) {k : Nat} (hk : k ≤ l.length) : valB b (l.drop k) = valB b l / b ^ k := by
  rw [valB_split b l hk, Nat.add_mul_div_left _ _ (Nat.pow_pos hb), Nat.div_eq_of_lt, Nat.zero_add]
  have := valB_lt (h.take k)
  rwa [List.length_take, Nat.min_eq_left hk] at this
theorem div_start {b n m s x y : Nat} {L : List Nat} (hb : 0 < b) (hm : m ≤ n) (h0 : 0 < m) (hL : L.length = n + 1) (hv : valB b L = x * 2 ^ s) (hx : x < b ^ n) (hy : b ^ (m - 1) ≤ y) : valB b (L.drop (n - m + 1)) < y * 2 ^ s := by
  have h1 := valB_split b L (k := n - m + 1) (by omega)
  rw [hv] at h1
  have h2 : x * 2 ^ s < b ^ n * 2 ^ s := Nat.mul_lt_mul_of_pos_right hx (Nat.two_pow_pos s)
  have h3 : b ^ n = b ^ (n - m + 1) * b ^ (m - 1) := by rw [← Nat.pow_add]; congr 1; omega
  rw [h3, Nat.mul_assoc] at h2
  have h4 : b ^ (n - m + 1) * valB b (L.drop (n - m + 1)) < b ^ (n - m + 1) * (b ^ (m - 1) * 2 ^ s) := by omega
  have h5 := Nat.lt_of_mul_lt_mul_left h4
  exact Nat.lt_of_lt_of_le h5 (Nat.mul_le_mul_right _ hy)
theorem div_window {b j m V : Nat} {U : List Nat} (hb : 0 < b) (dU : DigN b U) (hj : j + m + 1 ≤ U.length) (hV : V < b ^ m) (hlt : valB b (U.drop (j + 1)) < V) :
    valB b ((U.drop j).take (m + 1)) = valB b (U.drop j) ∧ valB b (U.drop j) < V * b ∧ valB b (U.drop (j + (m + 1))) = 0 := by
  have h1 := valB_drop b U (k := j) (by omega)
  have h2 := dU.get hb j
  have h3 := Nat.mul_le_mul_left b (show valB b (U.drop (j + 1)) + 1 ≤ V from hlt)
  rw [Nat.mul_add] at h3
  have h4 : valB b (U.drop j) < V * b := by rw [Nat.mul_comm V]; omega
  have h5 := valB_split b (U.drop j) (k := m + 1) (by simp; omega)
  rw [List.drop_drop] at h5
  have h6 : V * b ≤ b ^ (m + 1) := by rw [Nat.pow_succ]; exact Nat.mul_le_mul_right b (Nat.le_of_lt hV)
  have h7 : valB b (U.drop (j + (m + 1))) = 0 := by
    refine Classical.byContradiction fun h => ?_
    have := Nat.mul_le_mul_left (b ^ (m + 1)) (show 1 ≤ valB b (U.drop (j + (m + 1))) by omega)
    omega
  rw [h7] at h5
  exact ⟨by omega, h4, h7⟩
theorem div_digit {b j m V W X : Nat} {U Q M : List Nat} (hj : j + (m + 1) ≤ U.length) (hQ : j < Q.length) (hM : M.length = m + 1) (hv : valB b M = W % V) (hV : 0 < V) (hW : valB b ((U.drop j).take (m + 1)) = W) (h0 : valB b (U.drop (j + (m + 1))) = 0)
    (hI : valB b U + V * (b ^ (j + 1) * valB b (Q.drop (j + 1))) = X) :
    valB b (putN U j M) + V * (b ^ j * valB b ((Q.set j (W / V)).drop j)) = X ∧ valB b ((putN U j M).drop j) < V := by
  have h1 := putN_val (b := b) (L := U) (M := M) (j := j) (by omega)
  rw [hM, hW, hv] at h1
  have h2 : valB b ((Q.set j (W / V)).drop j) = W / V + b * valB b (Q.drop (j + 1)) := by rw [drop_set_self Q _ hQ]; rfl
  refine ⟨?_, ?_⟩
  · rw [h2, Nat.mul_add (b ^ j), Nat.mul_add V, ← Nat.mul_assoc (b ^ j) b, ← Nat.pow_succ]
    have h3 : b ^ j * W = b ^ j * (W % V) + V * (b ^ j * (W / V)) := by
      rw [Nat.mul_left_comm V, ← Nat.mul_add, Nat.mod_add_div]
    have e : j.succ = j + 1 := rfl
    rw [e]
    omega
  · rw [putN_drop (by omega), valB_append, hM, h0, hv, Nat.mul_zero, Nat.add_zero]
    exact Nat.mod_lt _ hV
theorem div_end {b s x y : Nat} {U Q : List Nat} (hy : 0 < y) (hI : valB b U + y * 2 ^ s * valB b Q = x * 2 ^ s) (hlt : valB b U < y * 2 ^ s) : valB b Q = x / y ∧ valB b U = x % y * 2 ^ s := by
  have hp := Nat.two_pow_pos s
  have h1 : x * 2 ^ s / (y * 2 ^ s) = valB b Q := by
    rw [← hI, Nat.add_mul_div_left _ _ (Nat.mul_pos hy hp), Nat.div_eq_of_lt hlt, Nat.zero_add]
  have h2 : x * 2 ^ s % (y * 2 ^ s) = valB b U := by
    rw [← hI, Nat.add_mul_mod_self_left, Nat.mod_eq_of_lt hlt]
  rw [Nat.mul_div_mul_right _ _ hp] at h1
  rw [Nat.mul_mod_mul_right] at h2
  exact ⟨h1.symm, h2.symm⟩
theorem rem_digit {b i s z : Nat} {U : List Nat} (hb : 0 < b) (hd : 2 ^ s ∣ b) (dU : DigN b U) (hi : i + 1 < U.length) (hv : valB b U = z * 2 ^ s) : (U.getD i 0 + b * U.getD (i + 1) 0) / 2 ^ s % b = z / b ^ i % b := by
  have hp := Nat.two_pow_pos s
  have h1 : valB b (U.drop i) = valB b U / b ^ i := valB_drop_div hb dU (by omega)
  rw [hv] at h1
  have h2 : z * 2 ^ s / b ^ i / 2 ^ s = z / b ^ i := by
    rw [Nat.div_div_eq_div_mul, Nat.mul_div_mul_right _ _ hp]
  rw [← h1, valB_drop b U (k := i) (by omega), valB_drop b U hi] at h2
  obtain ⟨m, hm⟩ := hd
  rw [← h2, Nat.mul_add, ← Nat.add_assoc]
  generalize U.getD i 0 + b * U.getD (i + 1) 0 = t
  generalize valB b (U.drop (i + 1 + 1)) = Z
  have h3 : b * (b * Z) = 2 ^ s * (b * (m * Z)) := by
    have h4 : b * Z = 2 ^ s * (m * Z) := by rw [← Nat.mul_assoc (2 ^ s) m Z, ← hm]
    rw [h4, Nat.mul_left_comm]
  rw [h3, Nat.add_mul_div_left _ _ hp, Nat.add_mul_mod_self_left]
theorem rem_step {b i z d : Nat} {R : List Nat} (hR : i < R.length) (hd : d = z / b ^ i % b) (hI : valB b (R.take i) = z % b ^ i) : valB b ((R.set i d).take (i + 1)) = z % b ^ (i + 1) := by
  rw [take_set_succ R _ hR, valB_snoc, List.length_take, Nat.min_eq_left (by omega), hI, hd, Nat.mod_pow_succ]
end Go.Dw
