/- Whole numbers by digits of any base, the least one first: plain arithmetic, no program in sight. -/
import Derived.WalkKit
import Derived.Lib.ItoaNum
set_option linter.unusedSimpArgs false
set_option linter.unusedVariables false
namespace Go.Dw
def valB (b : Nat) : List Nat → Nat
  | [] => 0
  | d :: l => d + b * valB b l
def DigN (b : Nat) (l : List Nat) : Prop := ∀ d ∈ l, d < b
def CanN (b : Nat) (l : List Nat) : Prop := DigN b l ∧ l.getLast? ≠ some 0
theorem valB_append (b : Nat) : ∀ (l r : List Nat), valB b (l ++ r) = valB b l + b ^ l.length * valB b r
  | [], r => by simp [valB]
  | d :: l, r => by
    have h := valB_append b l r
    simp only [List.cons_append, valB, h, List.length_cons, Nat.pow_succ, Nat.mul_add, Nat.add_assoc]
    rw [← Nat.mul_assoc, Nat.mul_comm b (b ^ l.length)]
theorem DigN.nil (b : Nat) : DigN b [] := fun _ h => by simp at h
theorem DigN.cons {b d : Nat} {l : List Nat} (h : d < b) (k : DigN b l) : DigN b (d :: l) := fun x hx => by
  rcases List.mem_cons.1 hx with h1 | h1
  · omega
  · exact k x h1
theorem DigN.head {b d : Nat} {l : List Nat} (h : DigN b (d :: l)) : d < b := h d (by simp)
theorem DigN.tail {b d : Nat} {l : List Nat} (h : DigN b (d :: l)) : DigN b l := fun x hx => h x (by simp [hx])
theorem DigN.append {b : Nat} {l r : List Nat} (h : DigN b l) (k : DigN b r) : DigN b (l ++ r) := fun x hx => by
  rcases List.mem_append.1 hx with h1 | h1
  · exact h x h1
  · exact k x h1
theorem DigN.take {b : Nat} {l : List Nat} (h : DigN b l) (n : Nat) : DigN b (l.take n) := fun x hx => h x (List.mem_of_mem_take hx)
theorem DigN.drop {b : Nat} {l : List Nat} (h : DigN b l) (n : Nat) : DigN b (l.drop n) := fun x hx => h x (List.mem_of_mem_drop hx)
theorem DigN.snoc {b d : Nat} {l : List Nat} (h : DigN b l) (k : d < b) : DigN b (l ++ [d]) := h.append (DigN.cons k (DigN.nil b))
theorem DigN.get {b : Nat} {l : List Nat} (h : DigN b l) (hb : 0 < b) (i : Nat) : l.getD i 0 < b := by
  by_cases hi : i < l.length
  · have : l.getD i 0 = l[i] := by simp [List.getD, hi]
    rw [this]; exact h _ (List.getElem_mem hi)
  · have : l.getD i 0 = 0 := by simp [List.getD, List.getElem?_eq_none (Nat.le_of_not_lt hi)]
    rw [this]; exact hb
theorem DigN.zeros {b : Nat} (hb : 0 < b) (n : Nat) : DigN b (List.replicate n 0) := fun x hx => by
  have := List.eq_of_mem_replicate hx
  omega
theorem valB_zeros (b : Nat) : ∀ n : Nat, valB b (List.replicate n 0) = 0
  | 0 => rfl
  | n + 1 => by rw [List.replicate_succ]; simp [valB, valB_zeros b n]
theorem valB_lt {b : Nat} : ∀ {l : List Nat}, DigN b l → valB b l < b ^ l.length
  | [], _ => by simp [valB]
  | d :: l, h => by
    have h1 := valB_lt h.tail
    have h2 := h.head
    have h3 := Nat.mul_le_mul_left b (show valB b l + 1 ≤ b ^ l.length from h1)
    rw [List.length_cons, Nat.pow_succ, Nat.mul_comm (b ^ l.length) b]
    simp only [valB]
    rw [Nat.mul_add] at h3
    omega
theorem valB_single (b d : Nat) : valB b [d] = d := by simp [valB]
theorem valB_snoc (b : Nat) (l : List Nat) (d : Nat) : valB b (l ++ [d]) = valB b l + b ^ l.length * d := by rw [valB_append, valB_single]
theorem valB_take_succ (b : Nat) (l : List Nat) {k : Nat} (h : k < l.length) : valB b (l.take (k + 1)) = valB b (l.take k) + b ^ k * l.getD k 0 := by
  rw [List.take_succ_eq_append_getElem h, valB_snoc, List.length_take, Nat.min_eq_left (by omega)]
  simp [List.getD, h]
theorem valB_drop (b : Nat) (l : List Nat) {k : Nat} (h : k < l.length) : valB b (l.drop k) = l.getD k 0 + b * valB b (l.drop (k + 1)) := by
  rw [List.drop_eq_getElem_cons h]
  simp [valB, List.getD, h]
theorem valB_split (b : Nat) (l : List Nat) {k : Nat} (h : k ≤ l.length) : valB b l = valB b (l.take k) + b ^ k * valB b (l.drop k) := by
  have e : l = l.take k ++ l.drop k := (List.take_append_drop k l).symm
  have := valB_append b (l.take k) (l.drop k)
  rw [← e, List.length_take, Nat.min_eq_left h] at this
  exact this
theorem CanN.nil (b : Nat) : CanN b [] := ⟨DigN.nil b, by simp⟩
theorem CanN.tail {b d : Nat} {l : List Nat} (h : CanN b (d :: l)) : CanN b l := by
  refine ⟨h.1.tail, fun e => h.2 ?_⟩
  cases l with
  | nil => simp at e
  | cons x r => rw [List.getLast?_cons_cons]; exact e
theorem CanN.snoc {b d : Nat} {l : List Nat} (h : DigN b l) (hd : d < b) (h0 : d ≠ 0) : CanN b (l ++ [d]) :=
  ⟨h.snoc hd, by simp [h0]⟩
theorem CanN.ge {b : Nat} {l : List Nat} (h : CanN b l) (hl : l ≠ []) : b ^ (l.length - 1) ≤ valB b l := by
  obtain ⟨r, d, rfl⟩ : ∃ r d, l = r ++ [d] := ⟨l.dropLast, l.getLast hl, (List.dropLast_concat_getLast hl).symm⟩
  have h0 : d ≠ 0 := fun e => h.2 (by simp [e])
  rw [valB_snoc, List.length_append, List.length_singleton, Nat.add_sub_cancel]
  have := Nat.mul_le_mul_left (b ^ r.length) (show 1 ≤ d by omega)
  omega
theorem CanN.zero {b : Nat} (hb : 0 < b) {l : List Nat} (h : CanN b l) (h0 : valB b l = 0) : l = [] := by
  refine Classical.byContradiction fun hl => ?_
  have h1 := h.ge hl
  have h2 := Nat.pow_pos (n := l.length - 1) hb
  omega
theorem CanN.lt_len {b : Nat} (hb : 0 < b) {l r : List Nat} (hl : CanN b l) (hr : CanN b r) (h : l.length < r.length) : valB b l < valB b r := by
  have h1 := valB_lt hl.1
  have h2 := hr.ge (by intro e; rw [e] at h; simp at h)
  have h3 := Nat.pow_le_pow_right hb (show l.length ≤ r.length - 1 by omega)
  omega
theorem valB_lt_at {b : Nat} {l r : List Nat} (hl : DigN b l) (hr : DigN b r) (hn : l.length = r.length) {i : Nat} (hi : i < l.length) (ht : l.drop (i + 1) = r.drop (i + 1)) (h : l.getD i 0 < r.getD i 0) : valB b l < valB b r := by
  rw [valB_split b l (k := i) (by omega), valB_split b r (k := i) (by omega), valB_drop b l hi, valB_drop b r (by omega), ht]
  have h1 := valB_lt (hl.take i)
  rw [List.length_take, Nat.min_eq_left (by omega)] at h1
  have h2 := Nat.mul_le_mul_left (b ^ i) (show (l.getD i 0 + b * valB b (r.drop (i + 1))) + 1 ≤ r.getD i 0 + b * valB b (r.drop (i + 1)) by omega)
  rw [Nat.mul_add] at h2
  omega
theorem valB_take_zero {b : Nat} {l : List Nat} {k : Nat} (hk : k < l.length) (h0 : l.getD k 0 = 0) : valB b (l.take (k + 1)) = valB b (l.take k) := by
  rw [valB_take_succ b l hk, h0]; simp
theorem can_take {b : Nat} {l : List Nat} (h : DigN b l) {k : Nat} (hk : k ≤ l.length) (h0 : k = 0 ∨ l.getD (k - 1) 0 ≠ 0) : CanN b (l.take k) := by
  refine ⟨h.take k, fun e => ?_⟩
  rcases h0 with h0 | h0
  · subst h0; simp at e
  · have hp : 0 < k := by
      rcases Nat.eq_zero_or_pos k with h9 | h9
      · subst h9; simp at e
      · exact h9
    rw [List.getLast?_eq_getElem?, List.length_take, Nat.min_eq_left hk, List.getElem?_take_of_lt (by omega)] at e
    exact h0 (by simp [List.getD, e])
theorem can_last {b : Nat} {l : List Nat} (h : CanN b l) {k : Nat} (hk : l.length = k + 1) : l.getD k 0 ≠ 0 := fun h0 => h.2 (by
  rw [List.getLast?_eq_getElem?, hk, Nat.add_sub_cancel]
  have hlt : k < l.length := by omega
  simp [List.getD, hlt] at h0 ⊢
  exact h0)
theorem drop_getD {l : List Nat} {k : Nat} (h : k < l.length) : l.drop k = l.getD k 0 :: l.drop (k + 1) := by
  rw [List.drop_eq_getElem_cons h]; simp [List.getD, h]
/-! a row in the making -/
theorem valB_take_succ' (b : Nat) (l : List Nat) (k : Nat) : valB b (l.take (k + 1)) = valB b (l.take k) + b ^ k * l.getD k 0 := by
  by_cases h : k < l.length
  · exact valB_take_succ b l h
  · have h0 : l.getD k 0 = 0 := by simp [List.getD, List.getElem?_eq_none (Nat.le_of_not_lt h)]
    rw [h0, List.take_of_length_le (by omega), List.take_of_length_le (by omega)]; simp
theorem getDn_set_self {l : List Nat} {p d : Nat} (h : p < l.length) : (l.set p d).getD p 0 = d := by simp [List.getD, h]
theorem getDn_set_ne {l : List Nat} {p q d : Nat} (h : p ≠ q) : (l.set p d).getD q 0 = l.getD q 0 := by simp [List.getD, h]
theorem DigN.set {b d : Nat} {l : List Nat} (h : DigN b l) (hd : d < b) (p : Nat) : DigN b (l.set p d) := fun x hx => by
  rcases List.mem_or_eq_of_mem_set hx with h1 | h1
  · exact h x h1
  · omega
theorem valB_set (b : Nat) : ∀ (l : List Nat) (p d : Nat), p < l.length → valB b (l.set p d) + b ^ p * l.getD p 0 = valB b l + b ^ p * d
  | [], p, d, h => by simp at h
  | x :: l, 0, d, _ => by simp [valB]; omega
  | x :: l, p + 1, d, h => by
    have h1 := valB_set b l p d (by simpa using h)
    have h2 := congrArg (fun t => b * t) h1
    simp only [Nat.mul_add] at h2
    simp only [List.set_cons_succ, valB, Nat.pow_succ, List.getD_cons_succ, Nat.mul_comm (b ^ p) b, Nat.mul_assoc]
    omega
theorem take_set_succ (l : List Nat) {k : Nat} (d : Nat) (h : k < l.length) : (l.set k d).take (k + 1) = l.take k ++ [d] := by
  rw [List.take_succ_eq_append_getElem (by simpa using h)]
  simp [List.take_set_of_le]
theorem drop_set_self (l : List Nat) {k : Nat} (d : Nat) (h : k < l.length) : (l.set k d).drop k = d :: l.drop (k + 1) := by
  rw [List.drop_eq_getElem_cons (by simpa using h)]
  simp [List.drop_set_of_lt]
theorem mod_add_div' (b s : Nat) : s % b + b * (s / b) = s := Nat.mod_add_div s b
theorem add_step {b k c s : Nat} {L X Y : List Nat} (hL : k < L.length) (hs : s = c + X.getD k 0 + Y.getD k 0)
    (h : valB b (L.take k) + b ^ k * c = valB b (X.take k) + valB b (Y.take k)) :
    valB b ((L.set k (s % b)).take (k + 1)) + b ^ (k + 1) * (s / b) = valB b (X.take (k + 1)) + valB b (Y.take (k + 1)) := by
  rw [take_set_succ L _ hL, valB_snoc, List.length_take, Nat.min_eq_left (by omega), valB_take_succ' b X, valB_take_succ' b Y, Nat.pow_succ, Nat.mul_assoc, Nat.add_assoc, ← Nat.mul_add, mod_add_div', hs, Nat.mul_add, Nat.mul_add]
  omega
theorem sub_step {b k c s c' : Nat} {L X Y : List Nat} (hL : k < L.length) (hs : s + Y.getD k 0 + c = X.getD k 0 + b * c')
    (h : valB b (L.take k) + valB b (Y.take k) = valB b (X.take k) + b ^ k * c) :
    valB b ((L.set k s).take (k + 1)) + valB b (Y.take (k + 1)) = valB b (X.take (k + 1)) + b ^ (k + 1) * c' := by
  rw [take_set_succ L _ hL, valB_snoc, List.length_take, Nat.min_eq_left (by omega), valB_take_succ' b X, valB_take_succ' b Y, Nat.pow_succ, Nat.mul_assoc]
  have h1 := congrArg (fun t => b ^ k * t) hs
  simp only [Nat.mul_add] at h1
  omega
theorem mul_step {b i j c s x V : Nat} {L Y : List Nat} (hL : i + j < L.length) (hs : s = c + x * Y.getD j 0 + L.getD (i + j) 0)
    (h : valB b L + b ^ (i + j) * c = V + b ^ i * (x * valB b (Y.take j))) :
    valB b (L.set (i + j) (s % b)) + b ^ (i + (j + 1)) * (s / b) = V + b ^ i * (x * valB b (Y.take (j + 1))) := by
  have h1 := valB_set b L (i + j) (s % b) hL
  have h2 : b ^ (i + j) * (s % b) + b ^ (i + (j + 1)) * (s / b) = b ^ (i + j) * s := by
    rw [← Nat.add_assoc, Nat.pow_succ, Nat.mul_assoc, ← Nat.mul_add, mod_add_div']
  rw [hs] at h2
  simp only [Nat.mul_add] at h2
  rw [← hs] at h2
  have h3 : b ^ i * (x * valB b (Y.take (j + 1))) = b ^ i * (x * valB b (Y.take j)) + b ^ (i + j) * (x * Y.getD j 0) := by
    rw [valB_take_succ' b Y, Nat.mul_add, Nat.mul_add, Nat.pow_add]
    congr 1
    rw [Nat.mul_assoc, Nat.mul_left_comm x]
  rw [h3]
  omega
theorem mul_last {b p c V : Nat} {L : List Nat} (hL : p < L.length) (h0 : L.getD p 0 = 0) (h : valB b L + b ^ p * c = V) : valB b (L.set p c) = V := by
  have h1 := valB_set b L p c hL
  rw [h0] at h1
  omega
theorem divw_step {b k r w s : Nat} {L X : List Nat} (hL : k < L.length) (hX : k < X.length) (hs : s = r * b + X.getD k 0)
    (h : valB b (X.drop (k + 1)) = valB b (L.drop (k + 1)) * w + r) :
    valB b (X.drop k) = valB b ((L.set k (s / w)).drop k) * w + s % w := by
  rw [drop_set_self L _ hL, valB_drop b X hX, h]
  simp only [valB]
  rw [Nat.mul_add, Nat.add_mul, hs]
  have := Nat.div_add_mod (r * b + X.getD k 0) w
  rw [Nat.mul_comm (_ / w) w, Nat.mul_comm b r, ← Nat.mul_assoc]
  omega
theorem left_step {b k y v t h : Nat} {L X : List Nat} {m d : Nat} (hL : k + 1 < L.length) (hv : L.getD k 0 = v) (h0 : L.getD (k + 1) 0 = 0) (ht : t = v + y % b) (hh : h = y / b) (hd : X.getD k 0 = d) (hy : y = d * m)
    (hI : valB b L = valB b (X.take k) * m) : valB b ((L.set k t).set (k + 1) h) = valB b (X.take (k + 1)) * m := by
  have h1 := valB_set b L k t (by omega)
  have h2 := valB_set b (L.set k t) (k + 1) h (by simpa using hL)
  rw [getDn_set_ne (by omega), h0] at h2
  rw [hv] at h1
  rw [valB_take_succ', hd, Nat.add_mul, Nat.mul_assoc, ← hy, ← hI]
  have h3 : b ^ k * y = b ^ k * (y % b) + b ^ (k + 1) * h := by rw [Nat.pow_succ, Nat.mul_assoc, ← Nat.mul_add, hh, mod_add_div']
  have h4 : b ^ k * t = b ^ k * v + b ^ k * (y % b) := by rw [ht, Nat.mul_add]
  omega
end Go.Dw
/- Long division, digit by digit: plain arithmetic, no program in sight. -/
namespace Go.Dw
theorem dstep_digit {b i q ca bo c2 lo d bo' ca' : Nat} {M us vs : List Nat} (hM : i < M.length) (hc : c2 = ca + q * vs.getD i 0) (hl : c2 = lo + b * ca') (hw : d + lo + bo = us.getD i 0 + b * bo')
    (hI : valB b (M.take i) + q * valB b (vs.take i) = valB b (us.take i) + b ^ i * (ca + bo)) (h2 : b ^ i * ca ≤ q * valB b (vs.take i)) :
    valB b ((M.set i d).take (i + 1)) + q * valB b (vs.take (i + 1)) = valB b (us.take (i + 1)) + b ^ (i + 1) * (ca' + bo') ∧ b ^ (i + 1) * ca' ≤ q * valB b (vs.take (i + 1)) := by
  have e1 : q * valB b (vs.take (i + 1)) = q * valB b (vs.take i) + b ^ i * (q * vs.getD i 0) := by
    rw [valB_take_succ', Nat.mul_add, Nat.mul_left_comm]
  have e2 : valB b ((M.set i d).take (i + 1)) = valB b (M.take i) + b ^ i * d := by
    rw [take_set_succ M _ hM, valB_snoc, List.length_take, Nat.min_eq_left (by omega)]
  have e3 : valB b (us.take (i + 1)) = valB b (us.take i) + b ^ i * us.getD i 0 := valB_take_succ' _ _ _
  have e4 : b ^ i * (d + lo + bo) = b ^ i * (us.getD i 0 + b * bo') := by rw [hw]
  have e5 : b ^ i * (ca + q * vs.getD i 0) = b ^ i * (lo + b * ca') := by rw [← hc, hl]
  have e6 : b ^ (i + 1) * (ca' + bo') = b ^ i * (b * ca') + b ^ i * (b * bo') := by rw [Nat.pow_succ, Nat.mul_assoc, Nat.mul_add, Nat.mul_add]
  have e7 : b ^ (i + 1) * ca' = b ^ i * (b * ca') := by rw [Nat.pow_succ, Nat.mul_assoc]
  simp only [Nat.mul_add] at e4 e5 hI
  exact ⟨by omega, by omega⟩
theorem dstep_end {b n q ca bo U V : Nat} {M : List Nat} (hq : q < b) (hV : V < b ^ n) (hI : valB b M + q * V = U + b ^ (n + 1) * (ca + bo)) (h2 : b ^ (n + 1) * ca ≤ q * V) :
    valB b M + q * V = U + b ^ (n + 1) * bo := by
  have h3 : q * V < b * b ^ n := by
    have h4 := Nat.mul_le_mul (show q + 1 ≤ b from hq) (show V + 1 ≤ b ^ n from hV)
    rw [Nat.add_mul, Nat.mul_add] at h4
    omega
  rw [Nat.mul_comm b, ← Nat.pow_succ] at h3
  have h5 : ca = 0 := by
    refine Classical.byContradiction fun h => ?_
    have := Nat.mul_le_mul_left (b ^ (n + 1)) (show 1 ≤ ca by omega)
    have e : n.succ = n + 1 := rfl
    rw [e] at h3
    omega
  rw [h5, Nat.zero_add] at hI
  exact hI
theorem dstep_yes {b n q U V : Nat} {M : List Nat} (hV : 0 < V) (hI : valB b M + q * V = U + b ^ (n + 1) * 0) (hle : U / V ≤ q) : q = U / V ∧ valB b M = U % V := by
  have h1 : q ≤ U / V := (Nat.le_div_iff_mul_le hV).2 (by omega)
  have h2 : q = U / V := by omega
  refine ⟨h2, ?_⟩
  have h3 := Nat.div_add_mod U V
  rw [← h2, Nat.mul_comm] at h3
  omega
theorem dstep_no {b n q U V : Nat} {M : List Nat} (hM : valB b M < b ^ (n + 1)) (hV : 0 < V) (hI : valB b M + q * V = U + b ^ (n + 1) * 1) (hle : U / V ≤ q) : 0 < q ∧ U / V ≤ q - 1 := by
  have h1 : U < q * V := by omega
  have h2 : U / V < q := (Nat.div_lt_iff_lt_mul hV).2 h1
  exact ⟨Nat.lt_of_le_of_lt (Nat.zero_le _) h2, Nat.le_sub_one_of_lt h2⟩
theorem quot_est {b n : Nat} {us vs : List Nat} (hb : 0 < b) (hu : us.length = n + 2) (hv : vs.length = n + 1) (du : DigN b us) (h0 : 0 < vs.getD n 0) :
    valB b us / valB b vs ≤ (us.getD n 0 + b * us.getD (n + 1) 0) / vs.getD n 0 := by
  have eU : valB b us = valB b (us.take n) + b ^ n * (us.getD n 0 + b * us.getD (n + 1) 0) := by
    rw [valB_split b us (k := n) (by omega), valB_drop b us (by omega), valB_drop b us (by omega), List.drop_of_length_le (by omega)]
    simp [valB]
  have eV : valB b vs = valB b (vs.take n) + b ^ n * vs.getD n 0 := by
    rw [valB_split b vs (k := n) (by omega), valB_drop b vs (by omega), List.drop_of_length_le (by omega)]
    simp [valB]
  have hp := Nat.pow_pos (n := n) hb
  have hlt := valB_lt (du.take n)
  rw [List.length_take, Nat.min_eq_left (by omega)] at hlt
  rw [Nat.le_div_iff_mul_le h0]
  have h1 := Nat.div_mul_le_self (valB b us) (valB b vs)
  generalize valB b us / valB b vs = q at h1 ⊢
  generalize us.getD n 0 + b * us.getD (n + 1) 0 = t at eU ⊢
  generalize vs.getD n 0 = v at eV h0 ⊢
  rw [eU, eV] at h1
  have h2 : b ^ n * (q * v) < b ^ n * (t + 1) := by
    have e : q * (valB b (vs.take n) + b ^ n * v) = q * valB b (vs.take n) + b ^ n * (q * v) := by rw [Nat.mul_add, Nat.mul_left_comm]
    rw [e] at h1
    rw [Nat.mul_add]
    omega
  have h3 := Nat.lt_of_mul_lt_mul_left h2
  omega
theorem quot_top {b U V : Nat} (h : U < V * b) (hV : 0 < V) : U / V ≤ b - 1 := by
  have : U / V < b := (Nat.div_lt_iff_lt_mul hV).2 (by rw [Nat.mul_comm]; exact h)
  omega
def putN (L : List Nat) (j : Nat) (M : List Nat) : List Nat := L.take j ++ (M ++ L.drop (j + M.length))
theorem putN_length {L M : List Nat} {j : Nat} (h : j + M.length ≤ L.length) : (putN L j M).length = L.length := by simp [putN]; omega
theorem putN_dig {b : Nat} {L M : List Nat} {j : Nat} (h : DigN b L) (k : DigN b M) : DigN b (putN L j M) := (h.take j).append (k.append (h.drop _))
theorem putN_drop {L M : List Nat} {j : Nat} (h : j + M.length ≤ L.length) : (putN L j M).drop j = M ++ L.drop (j + M.length) := by
  unfold putN
  rw [List.drop_append, List.drop_of_length_le (by simp; omega)]
  simp [Nat.min_eq_left (show j ≤ L.length by omega)]
theorem putN_val {b : Nat} {L M : List Nat} {j : Nat} (h : j + M.length ≤ L.length) : valB b (putN L j M) + b ^ j * valB b ((L.drop j).take M.length) = valB b L + b ^ j * valB b M := by
  have e1 : valB b (putN L j M) = valB b (L.take j) + b ^ j * (valB b M + b ^ M.length * valB b (L.drop (j + M.length))) := by
    unfold putN
    rw [valB_append, valB_append, List.length_take, Nat.min_eq_left (by omega)]
  have e2 : valB b L = valB b (L.take j) + b ^ j * (valB b ((L.drop j).take M.length) + b ^ M.length * valB b (L.drop (j + M.length))) := by
    rw [valB_split b L (k := j) (by omega), valB_split b (L.drop j) (k := M.length) (by simp; omega), List.drop_drop]
  rw [e1, e2]
  simp only [Nat.mul_add]
  omega
end Go.Dw
/- Long division as a whole: plain arithmetic, no program in sight. -/
namespace Go.Dw
theorem valB_drop_div {b : Nat} {l : List Nat} (hb : 0 < b) (h : DigN b l) {k : Nat} (hk : k ≤ l.length) : valB b (l.drop k) = valB b l / b ^ k := by
  rw [valB_split b l hk, Nat.add_mul_div_left _ _ (Nat.pow_pos hb), Nat.div_eq_of_lt, Nat.zero_add]
  have := valB_lt (h.take k)
  rwa [List.length_take, Nat.min_eq_left hk] at this
theorem div_start {b n m s x y : Nat} {L : List Nat} (hb : 0 < b) (hm : m ≤ n) (h0 : 0 < m) (hL : L.length = n + 1) (hv : valB b L = x * 2 ^ s) (hx : x < b ^ n) (hy : b ^ (m - 1) ≤ y) : valB b (L.drop (n - m + 1)) < y * 2 ^ s := by
  have h1 := valB_split b L (k := n - m + 1) (by omega)
  rw [hv] at h1
  have h2 : x * 2 ^ s < b ^ n * 2 ^ s := Nat.mul_lt_mul_of_pos_right hx (Nat.two_pow_pos s)
  have h3 : b ^ n = b ^ (n - m + 1) * b ^ (m - 1) := by rw [← Nat.pow_add]; congr 1; omega
  rw [h3, Nat.mul_assoc] at h2
  have h4 : b ^ (n - m + 1) * valB b (L.drop (n - m + 1)) < b ^ (n - m + 1) * (b ^ (m - 1) * 2 ^ s) := by omega
  have h5 := Nat.lt_of_mul_lt_mul_left h4
  exact Nat.lt_of_lt_of_le h5 (Nat.mul_le_mul_right _ hy)
theorem div_window {b j m V : Nat} {U : List Nat} (hb : 0 < b) (dU : DigN b U) (hj : j + m + 1 ≤ U.length) (hV : V < b ^ m) (hlt : valB b (U.drop (j + 1)) < V) :
    valB b ((U.drop j).take (m + 1)) = valB b (U.drop j) ∧ valB b (U.drop j) < V * b ∧ valB b (U.drop (j + (m + 1))) = 0 := by
  have h1 := valB_drop b U (k := j) (by omega)
  have h2 := dU.get hb j
  have h3 := Nat.mul_le_mul_left b (show valB b (U.drop (j + 1)) + 1 ≤ V from hlt)
  rw [Nat.mul_add] at h3
  have h4 : valB b (U.drop j) < V * b := by rw [Nat.mul_comm V]; omega
  have h5 := valB_split b (U.drop j) (k := m + 1) (by simp; omega)
  rw [List.drop_drop] at h5
  have h6 : V * b ≤ b ^ (m + 1) := by rw [Nat.pow_succ]; exact Nat.mul_le_mul_right b (Nat.le_of_lt hV)
  have h7 : valB b (U.drop (j + (m + 1))) = 0 := by
    refine Classical.byContradiction fun h => ?_
    have := Nat.mul_le_mul_left (b ^ (m + 1)) (show 1 ≤ valB b (U.drop (j + (m + 1))) by omega)
    omega
  rw [h7] at h5
  exact ⟨by omega, h4, h7⟩
theorem div_digit {b j m V W X : Nat} {U Q M : List Nat} (hj : j + (m + 1) ≤ U.length) (hQ : j < Q.length) (hM : M.length = m + 1) (hv : valB b M = W % V) (hV : 0 < V) (hW : valB b ((U.drop j).take (m + 1)) = W) (h0 : valB b (U.drop (j + (m + 1))) = 0)
    (hI : valB b U + V * (b ^ (j + 1) * valB b (Q.drop (j + 1))) = X) :
    valB b (putN U j M) + V * (b ^ j * valB b ((Q.set j (W / V)).drop j)) = X ∧ valB b ((putN U j M).drop j) < V := by
  have h1 := putN_val (b := b) (L := U) (M := M) (j := j) (by omega)
  rw [hM, hW, hv] at h1
  have h2 : valB b ((Q.set j (W / V)).drop j) = W / V + b * valB b (Q.drop (j + 1)) := by rw [drop_set_self Q _ hQ]; rfl
  refine ⟨?_, ?_⟩
  · rw [h2, Nat.mul_add (b ^ j), Nat.mul_add V, ← Nat.mul_assoc (b ^ j) b, ← Nat.pow_succ]
    have h3 : b ^ j * W = b ^ j * (W % V) + V * (b ^ j * (W / V)) := by
      rw [Nat.mul_left_comm V, ← Nat.mul_add, Nat.mod_add_div]
    have e : j.succ = j + 1 := rfl
    rw [e]
    omega
  · rw [putN_drop (by omega), valB_append, hM, h0, hv, Nat.mul_zero, Nat.add_zero]
    exact Nat.mod_lt _ hV
theorem div_end {b s x y : Nat} {U Q : List Nat} (hy : 0 < y) (hI : valB b U + y * 2 ^ s * valB b Q = x * 2 ^ s) (hlt : valB b U < y * 2 ^ s) : valB b Q = x / y ∧ valB b U = x % y * 2 ^ s := by
  have hp := Nat.two_pow_pos s
  have h1 : x * 2 ^ s / (y * 2 ^ s) = valB b Q := by
    rw [← hI, Nat.add_mul_div_left _ _ (Nat.mul_pos hy hp), Nat.div_eq_of_lt hlt, Nat.zero_add]
  have h2 : x * 2 ^ s % (y * 2 ^ s) = valB b U := by
    rw [← hI, Nat.add_mul_mod_self_left, Nat.mod_eq_of_lt hlt]
  rw [Nat.mul_div_mul_right _ _ hp] at h1
  rw [Nat.mul_mod_mul_right] at h2
  exact ⟨h1.symm, h2.symm⟩
theorem rem_digit {b i s z : Nat} {U : List Nat} (hb : 0 < b) (hd : 2 ^ s ∣ b) (dU : DigN b U) (hi : i + 1 < U.length) (hv : valB b U = z * 2 ^ s) : (U.getD i 0 + b * U.getD (i + 1) 0) / 2 ^ s % b = z / b ^ i % b := by
  have hp := Nat.two_pow_pos s
  have h1 : valB b (U.drop i) = valB b U / b ^ i := valB_drop_div hb dU (by omega)
  rw [hv] at h1
  have h2 : z * 2 ^ s / b ^ i / 2 ^ s = z / b ^ i := by
    rw [Nat.div_div_eq_div_mul, Nat.mul_div_mul_right _ _ hp]
  rw [← h1, valB_drop b U (k := i) (by omega), valB_drop b U hi] at h2
  obtain ⟨m, hm⟩ := hd
  rw [← h2, Nat.mul_add, ← Nat.add_assoc]
  generalize U.getD i 0 + b * U.getD (i + 1) 0 = t
  generalize valB b (U.drop (i + 1 + 1)) = Z
  have h3 : b * (b * Z) = 2 ^ s * (b * (m * Z)) := by
    have h4 : b * Z = 2 ^ s * (m * Z) := by rw [← Nat.mul_assoc (2 ^ s) m Z, ← hm]
    rw [h4, Nat.mul_left_comm]
  rw [h3, Nat.add_mul_div_left _ _ hp, Nat.add_mul_mod_self_left]
theorem rem_step {b i z d : Nat} {R : List Nat} (hR : i < R.length) (hd : d = z / b ^ i % b) (hI : valB b (R.take i) = z % b ^ i) : valB b ((R.set i d).take (i + 1)) = z % b ^ (i + 1) := by
  rw [take_set_succ R _ hR, valB_snoc, List.length_take, Nat.min_eq_left (by omega), hI, hd, Nat.mod_pow_succ]
end Go.Dw
/- Decimal numerals: plain arithmetic, no program in sight. -/
namespace Go.Dw
def decV (l : List UInt8) : Nat := l.foldl (fun a c => 10 * a + (c.toNat - 48)) 0
def AllDig (l : List UInt8) : Prop := ∀ c ∈ l, 48 ≤ c.toNat ∧ c.toNat ≤ 57
theorem decV_nil : decV [] = 0 := rfl
theorem decV_snoc (l : List UInt8) (c : UInt8) : decV (l ++ [c]) = 10 * decV l + (c.toNat - 48) := by simp [decV, List.foldl_append]
theorem decV_fold : ∀ (l : List UInt8) (a : Nat), l.foldl (fun a c => 10 * a + (c.toNat - 48)) a = 10 ^ l.length * a + decV l
  | [], a => by simp [decV]
  | c :: l, a => by
    have h1 := decV_fold l (10 * a + (c.toNat - 48))
    have h2 := decV_fold l (c.toNat - 48)
    have h3 : decV (c :: l) = 10 ^ l.length * (c.toNat - 48) + decV l := by
      show List.foldl _ (10 * 0 + (c.toNat - 48)) l = _
      rw [Nat.mul_zero, Nat.zero_add]; exact h2
    rw [List.foldl_cons, h1, h3, List.length_cons, Nat.pow_succ, Nat.mul_add, Nat.mul_assoc]
    omega
theorem decV_append (l r : List UInt8) : decV (l ++ r) = 10 ^ r.length * decV l + decV r := by
  show List.foldl _ 0 (l ++ r) = _
  rw [List.foldl_append]
  exact decV_fold r (decV l)
theorem decV_lt : ∀ {l : List UInt8}, AllDig l → decV l < 10 ^ l.length
  | [], _ => by simp [decV]
  | c :: l, h => by
    have h1 := decV_lt (l := l) (fun x hx => h x (by simp [hx]))
    have h2 := h c (by simp)
    have h3 : decV (c :: l) = 10 ^ l.length * (c.toNat - 48) + decV l := by
      have := decV_append [c] l
      simpa [decV] using this
    have h4 := Nat.mul_le_mul_left (10 ^ l.length) (show c.toNat - 48 ≤ 9 by omega)
    rw [h3, List.length_cons, Nat.pow_succ]
    omega
theorem decV_take_succ {l : List UInt8} {i : Nat} (h : i < l.length) : decV (l.take (i + 1)) = 10 * decV (l.take i) + ((l.getD i 0).toNat - 48) := by
  rw [List.take_succ_eq_append_getElem h, decV_snoc]
  simp [List.getD, h]
theorem decDigits_of : ∀ {L : List Nat} {u : Nat}, CanN 10 L → valB 10 L = u → 0 < u → Lib.decDigits u = (L.reverse.map fun d => UInt8.ofNat (48 + d))
  | [], u, _, hv, h0 => by simp [valB] at hv; omega
  | d :: L, u, hc, hv, h0 => by
    have hd := hc.1.head
    simp only [valB] at hv
    by_cases hL : L = []
    · subst hL
      have hu : u = d := by simp [valB] at hv; omega
      subst hu
      rw [Lib.decDigits, dif_pos hd]
      simp
    · have hp : 0 < valB 10 L := Nat.pos_of_ne_zero fun e => hL (hc.tail.zero (by omega) e)
      have hb : ¬ u < 10 := by omega
      rw [Lib.decDigits, dif_neg hb, decDigits_of (L := L) (u := u / 10) hc.tail (by omega) (by omega), show u % 10 = d by omega]
      simp
theorem decV_decDigits (u : Nat) : decV (Lib.decDigits u) = u := by
  induction u using Nat.strongRecOn with
  | _ u ih =>
    by_cases h : u < 10
    · rw [Lib.decDigits, dif_pos h]
      simp only [decV, List.foldl_cons, List.foldl_nil, UInt8.toNat_ofNat']
      omega
    · rw [Lib.decDigits, dif_neg h, decV_snoc, ih (u / 10) (by omega), UInt8.toNat_ofNat']
      omega
theorem allDig_decDigits (u : Nat) : AllDig (Lib.decDigits u) := by
  induction u using Nat.strongRecOn with
  | _ u ih =>
    by_cases h : u < 10
    · rw [Lib.decDigits, dif_pos h]
      intro c hc
      simp only [List.mem_singleton] at hc
      subst hc
      rw [UInt8.toNat_ofNat']
      omega
    · rw [Lib.decDigits, dif_neg h]
      intro c hc
      rcases List.mem_append.1 hc with h1 | h1
      · exact ih (u / 10) (by omega) c h1
      · simp only [List.mem_singleton] at h1
        subst h1
        rw [UInt8.toNat_ofNat']
        omega
theorem decDigits_decV : ∀ (n : Nat) (l : List UInt8), l.length = n → AllDig l → l ≠ [] → (l = [48] ∨ l.head? ≠ some 48) → Lib.decDigits (decV l) = l
  | 0, l, hn, _, h0, _ => absurd (List.eq_nil_of_length_eq_zero hn) h0
  | n + 1, l, hn, hd, h0, hz => by
    obtain ⟨r, c, rfl⟩ : ∃ r c, l = r ++ [c] := ⟨l.dropLast, l.getLast h0, (List.dropLast_concat_getLast h0).symm⟩
    have hcd := hd c (by simp)
    have hc : UInt8.ofNat (48 + (c.toNat - 48)) = c := by
      apply UInt8.toNat_inj.1
      rw [UInt8.toNat_ofNat']
      omega
    rw [decV_snoc]
    by_cases hr : r = []
    · subst hr
      rw [decV_nil, Nat.mul_zero, Nat.zero_add, Lib.decDigits, dif_pos (by omega), hc]
      rfl
    · obtain ⟨x, r', rfl⟩ : ∃ x r', r = x :: r' := by
        cases r with
        | nil => exact absurd rfl hr
        | cons x r' => exact ⟨x, r', rfl⟩
      have hx : x ≠ 48 := by
        rcases hz with hz | hz
        · simp at hz
        · intro e; exact hz (by simp [e])
      have hxd := hd x (by simp)
      have hdr : AllDig (x :: r') := fun y hy => hd y (by simp at hy ⊢; rcases hy with h | h; exact .inl h; exact .inr (.inl h))
      have hpos : 0 < decV (x :: r') := by
        have h3 : decV (x :: r') = 10 ^ r'.length * (x.toNat - 48) + decV r' := by
          have := decV_append [x] r'
          simpa [decV] using this
        have h4 : x.toNat ≠ 48 := fun e => hx (UInt8.toNat_inj.1 (by rw [e]; rfl))
        have h5 := Nat.mul_le_mul_left (10 ^ r'.length) (show 1 ≤ x.toNat - 48 by omega)
        have h6 := Nat.pow_pos (n := r'.length) (show 0 < 10 by omega)
        omega
      have hrec := decDigits_decV n (x :: r') (by simp at hn ⊢; omega) hdr (by simp) (.inr (by simp [hx]))
      rw [Lib.decDigits, dif_neg (by omega), show (10 * decV (x :: r') + (c.toNat - 48)) / 10 = decV (x :: r') by omega, show (10 * decV (x :: r') + (c.toNat - 48)) % 10 = c.toNat - 48 by omega, hrec, hc]
theorem CanN.of_le {b : Nat} (hb : 0 < b) {L M : List Nat} (hL : CanN b L) (hM : DigN b M) (hn : M.length = L.length) (hv : valB b L ≤ valB b M) : CanN b M := by
  refine ⟨hM, fun e => ?_⟩
  have hM0 : M ≠ [] := by intro h; rw [h] at e; simp at e
  obtain ⟨r, d, rfl⟩ : ∃ r d, M = r ++ [d] := ⟨M.dropLast, M.getLast hM0, (List.dropLast_concat_getLast hM0).symm⟩
  have hd : d = 0 := by simpa using e
  subst hd
  have h1 := hL.ge (by intro h; rw [h] at hn; simp at hn)
  have h2 := valB_lt (b := b) (l := r) (fun x hx => hM x (by simp [hx]))
  rw [valB_snoc] at hv
  rw [← hn, List.length_append, List.length_singleton, Nat.add_sub_cancel] at h1
  omega
theorem ten_pow_lt {l u n : Nat} (h1 : 10 ^ l ≤ u) (h2 : u < 4294967296 ^ n) : l < 32 * n := by
  have h3 : 2 ^ l ≤ 10 ^ l := Nat.pow_le_pow_left (by omega) l
  have h4 : (4294967296 : Nat) ^ n = 2 ^ (32 * n) := by rw [Nat.pow_mul]
  rw [h4] at h2
  exact (Nat.pow_lt_pow_iff_right (by omega)).1 (show 2 ^ l < 2 ^ (32 * n) by omega)
end Go.Dw
