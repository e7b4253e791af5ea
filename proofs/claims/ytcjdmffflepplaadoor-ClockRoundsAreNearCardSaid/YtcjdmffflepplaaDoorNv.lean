/- Whole numbers by digits of any base, the least one first: plain arithmetic, no program in sight. -/
import Derived.WalkKit
set_option linter.unusedSimpArgs false
set_option linter.unusedVariables false
namespace Go.Dw

def valB (b : Nat) : List Nat → Nat
  | [] => 0
  | d :: l => d + b * valB b l
def DigN (b : Nat) (l : List Nat) : Prop := ∀ d ∈ l, d < b
/-- digits without a needless 0 at the top -/
def CanN (b : Nat) (l : List Nat) : Prop := DigN b l ∧ l.getLast? ≠ some 0

theorem valB_append (b : Nat) : ∀ (l r : List Nat), valB b (l ++ r) = valB b l + b ^ l.length * valB b r
  | [], r => by simp [valB]
  | d :: l, r => by
    have h := valB_append b l r
    simp only [List.cons_append, valB, h, List.length_cons, Nat.pow_succ, Nat.mul_add, Nat.add_assoc]
    rw [← Nat.mul_assoc, Nat.mul_comm b (b ^ l.length)]
theorem DigN.nil (b : Nat) : DigN b [] := fun _ h => by simp at h
theorem DigN.cons {b d : Nat} {l : List Nat} (h : d < b) (k : DigN b l) : DigN b (d :: l) := fun x hx => by
  rcases List.mem_cons.1 hx with h1 | h1
  · omega
  · exact k x h1
theorem DigN.head {b d : Nat} {l : List Nat} (h : DigN b (d :: l)) : d < b := h d (by simp)
theorem DigN.tail {b d : Nat} {l : List Nat} (h : DigN b (d :: l)) : DigN b l := fun x hx => h x (by simp [hx])
theorem DigN.append {b : Nat} {l r : List Nat} (h : DigN b l) (k : DigN b r) : DigN b (l ++ r) := fun x hx => by
  rcases List.mem_append.1 hx with h1 | h1
  · exact h x h1
  · exact k x h1
theorem DigN.take {b : Nat} {l : List Nat} (h : DigN b l) (n : Nat) : DigN b (l.take n) := fun x hx => h x (List.mem_of_mem_take hx)
theorem DigN.drop {b : Nat} {l : List Nat} (h : DigN b l) (n : Nat) : DigN b (l.drop n) := fun x hx => h x (List.mem_of_mem_drop hx)
theorem DigN.snoc {b d : Nat} {l : List Nat} (h : DigN b l) (k : d < b) : DigN b (l ++ [d]) := h.append (DigN.cons k (DigN.nil b))
theorem DigN.get {b : Nat} {l : List Nat} (h : DigN b l) (hb : 0 < b) (i : Nat) : l.getD i 0 < b := by
  by_cases hi : i < l.length
  · have : l.getD i 0 = l[i] := by simp [List.getD, hi]
    rw [this]; exact h _ (List.getElem_mem hi)
  · have : l.getD i 0 = 0 := by simp [List.getD, List.getElem?_eq_none (Nat.le_of_not_lt hi)]
    rw [this]; exact hb
theorem DigN.zeros {b : Nat} (hb : 0 < b) (n : Nat) : DigN b (List.replicate n 0) := fun x hx => by
  have := List.eq_of_mem_replicate hx
  omega
theorem valB_zeros (b : Nat) : ∀ n : Nat, valB b (List.replicate n 0) = 0
  | 0 => rfl
  | n + 1 => by rw [List.replicate_succ]; simp [valB, valB_zeros b n]
theorem valB_lt {b : Nat} : ∀ {l : List Nat}, DigN b l → valB b l < b ^ l.length
  | [], _ => by simp [valB]
  | d :: l, h => by
    have h1 := valB_lt h.tail
    have h2 := h.head
    have h3 := Nat.mul_le_mul_left b (show valB b l + 1 ≤ b ^ l.length from h1)
    rw [List.length_cons, Nat.pow_succ, Nat.mul_comm (b ^ l.length) b]
    simp only [valB]
    rw [Nat.mul_add] at h3
    omega
theorem valB_single (b d : Nat) : valB b [d] = d := by simp [valB]
theorem valB_snoc (b : Nat) (l : List Nat) (d : Nat) : valB b (l ++ [d]) = valB b l + b ^ l.length * d := by rw [valB_append, valB_single]
theorem valB_take_succ (b : Nat) (l : List Nat) {k : Nat} (h : k < l.length) : valB b (l.take (k + 1)) = valB b (l.take k) + b ^ k * l.getD k 0 := by
  rw [List.take_succ_eq_append_getElem h, valB_snoc, List.length_take, Nat.min_eq_left (by omega)]
  simp [List.getD, h]
theorem valB_drop (b : Nat) (l : List Nat) {k : Nat} (h : k < l.length) : valB b (l.drop k) = l.getD k 0 + b * valB b (l.drop (k + 1)) := by
  rw [List.drop_eq_getElem_cons h]
  simp [valB, List.getD, h]
theorem valB_split (b : Nat) (l : List Nat) {k : Nat} (h : k ≤ l.length) : valB b l = valB b (l.take k) + b ^ k * valB b (l.drop k) := by
  have e : l = l.take k ++ l.drop k := (List.take_append_drop k l).symm
  have := valB_append b (l.take k) (l.drop k)
  rw [← e, List.length_take, Nat.min_eq_left h] at this
  exact this
theorem CanN.nil (b : Nat) : CanN b [] := ⟨DigN.nil b, by simp⟩
theorem CanN.tail {b d : Nat} {l : List Nat} (h : CanN b (d :: l)) : CanN b l := by
  refine ⟨h.1.tail, fun e => h.2 ?_⟩
  cases l with
  | nil => simp at e
  | cons x r => rw [List.getLast?_cons_cons]; exact e
theorem CanN.snoc {b d : Nat} {l : List Nat} (h : DigN b l) (hd : d < b) (h0 : d ≠ 0) : CanN b (l ++ [d]) :=
  ⟨h.snoc hd, by simp [h0]⟩
theorem CanN.ge {b : Nat} {l : List Nat} (h : CanN b l) (hl : l ≠ []) : b ^ (l.length - 1) ≤ valB b l := by
  obtain ⟨r, d, rfl⟩ : ∃ r d, l = r ++ [d] := ⟨l.dropLast, l.getLast hl, (List.dropLast_concat_getLast hl).symm⟩
  have h0 : d ≠ 0 := fun e => h.2 (by simp [e])
  rw [valB_snoc, List.length_append, List.length_singleton, Nat.add_sub_cancel]
  have := Nat.mul_le_mul_left (b ^ r.length) (show 1 ≤ d by omega)
  omega
theorem CanN.zero {b : Nat} (hb : 0 < b) {l : List Nat} (h : CanN b l) (h0 : valB b l = 0) : l = [] := by
  refine Classical.byContradiction fun hl => ?_
  have h1 := h.ge hl
  have h2 := Nat.pow_pos (n := l.length - 1) hb
  omega
theorem CanN.uniq {b : Nat} (hb : 0 < b) : ∀ {l r : List Nat}, CanN b l → CanN b r → valB b l = valB b r → l = r
  | [], r, _, hr, e => (hr.zero hb e.symm).symm
  | d :: l, [], hl, _, e => hl.zero hb e
  | d :: l, x :: r, hl, hr, e => by
    simp only [valB] at e
    have h1 := hl.1.head
    have h2 := hr.1.head
    have m1 : (d + b * valB b l) % b = d := by rw [Nat.add_mul_mod_self_left, Nat.mod_eq_of_lt h1]
    have m2 : (x + b * valB b r) % b = x := by rw [Nat.add_mul_mod_self_left, Nat.mod_eq_of_lt h2]
    have hd : d = x := by rw [← m1, ← m2, e]
    subst hd
    have e3 : b * valB b l = b * valB b r := by omega
    have hv : valB b l = valB b r := Nat.eq_of_mul_eq_mul_left hb e3
    rw [CanN.uniq hb hl.tail hr.tail hv]
/-- fewer digits: the lesser number -/
theorem CanN.lt_len {b : Nat} (hb : 0 < b) {l r : List Nat} (hl : CanN b l) (hr : CanN b r) (h : l.length < r.length) : valB b l < valB b r := by
  have h1 := valB_lt hl.1
  have h2 := hr.ge (by intro e; rw [e] at h; simp at h)
  have h3 := Nat.pow_le_pow_right hb (show l.length ≤ r.length - 1 by omega)
  omega
theorem CanN.len_le {b : Nat} (hb : 0 < b) {l r : List Nat} (hl : CanN b l) (hr : CanN b r) (h : valB b l ≤ valB b r) : l.length ≤ r.length :=
  Nat.le_of_not_lt fun h9 => by have := CanN.lt_len hb hr hl h9; omega
/-- the first digit from the top that differs decides -/
theorem valB_lt_at {b : Nat} {l r : List Nat} (hl : DigN b l) (hr : DigN b r) (hn : l.length = r.length) {i : Nat} (hi : i < l.length) (ht : l.drop (i + 1) = r.drop (i + 1)) (h : l.getD i 0 < r.getD i 0) : valB b l < valB b r := by
  rw [valB_split b l (k := i) (by omega), valB_split b r (k := i) (by omega), valB_drop b l hi, valB_drop b r (by omega), ht]
  have h1 := valB_lt (hl.take i)
  rw [List.length_take, Nat.min_eq_left (by omega)] at h1
  have h2 := Nat.mul_le_mul_left (b ^ i) (show (l.getD i 0 + b * valB b (r.drop (i + 1))) + 1 ≤ r.getD i 0 + b * valB b (r.drop (i + 1)) by omega)
  rw [Nat.mul_add] at h2
  omega
/-- digits that are 0 from n on: nothing is lost -/
theorem valB_take_zero {b : Nat} {l : List Nat} {k : Nat} (hk : k < l.length) (h0 : l.getD k 0 = 0) : valB b (l.take (k + 1)) = valB b (l.take k) := by
  rw [valB_take_succ b l hk, h0]; simp
theorem can_take {b : Nat} {l : List Nat} (h : DigN b l) {k : Nat} (hk : k ≤ l.length) (h0 : k = 0 ∨ l.getD (k - 1) 0 ≠ 0) : CanN b (l.take k) := by
  refine ⟨h.take k, fun e => ?_⟩
  rcases h0 with h0 | h0
  · subst h0; simp at e
  · have hp : 0 < k := by
      rcases Nat.eq_zero_or_pos k with h9 | h9
      · subst h9; simp at e
      · exact h9
    rw [List.getLast?_eq_getElem?, List.length_take, Nat.min_eq_left hk, List.getElem?_take_of_lt (by omega)] at e
    exact h0 (by simp [List.getD, e])
theorem can_last {b : Nat} {l : List Nat} (h : CanN b l) {k : Nat} (hk : l.length = k + 1) : l.getD k 0 ≠ 0 := fun h0 => h.2 (by
  rw [List.getLast?_eq_getElem?, hk, Nat.add_sub_cancel]
  have hlt : k < l.length := by omega
  simp [List.getD, hlt] at h0 ⊢
  exact h0)

theorem drop_getD {l : List Nat} {k : Nat} (h : k < l.length) : l.drop k = l.getD k 0 :: l.drop (k + 1) := by
  rw [List.drop_eq_getElem_cons h]; simp [List.getD, h]
/-! a row in the making -/
theorem valB_take_succ' (b : Nat) (l : List Nat) (k : Nat) : valB b (l.take (k + 1)) = valB b (l.take k) + b ^ k * l.getD k 0 := by
  by_cases h : k < l.length
  · exact valB_take_succ b l h
  · have h0 : l.getD k 0 = 0 := by simp [List.getD, List.getElem?_eq_none (Nat.le_of_not_lt h)]
    rw [h0, List.take_of_length_le (by omega), List.take_of_length_le (by omega)]; simp
theorem getDn_set_self {l : List Nat} {p d : Nat} (h : p < l.length) : (l.set p d).getD p 0 = d := by simp [List.getD, h]
theorem getDn_set_ne {l : List Nat} {p q d : Nat} (h : p ≠ q) : (l.set p d).getD q 0 = l.getD q 0 := by simp [List.getD, h]
theorem DigN.set {b d : Nat} {l : List Nat} (h : DigN b l) (hd : d < b) (p : Nat) : DigN b (l.set p d) := fun x hx => by
  rcases List.mem_or_eq_of_mem_set hx with h1 | h1
  · exact h x h1
  · omega
theorem valB_set (b : Nat) : ∀ (l : List Nat) (p d : Nat), p < l.length → valB b (l.set p d) + b ^ p * l.getD p 0 = valB b l + b ^ p * d
  | [], p, d, h => by simp at h
  | x :: l, 0, d, _ => by simp [valB]; omega
  | x :: l, p + 1, d, h => by
    have h1 := valB_set b l p d (by simpa using h)
    have h2 := congrArg (fun t => b * t) h1
    simp only [Nat.mul_add] at h2
    simp only [List.set_cons_succ, valB, Nat.pow_succ, List.getD_cons_succ, Nat.mul_comm (b ^ p) b, Nat.mul_assoc]
    omega
theorem take_set_succ (l : List Nat) {k : Nat} (d : Nat) (h : k < l.length) : (l.set k d).take (k + 1) = l.take k ++ [d] := by
  rw [List.take_succ_eq_append_getElem (by simpa using h)]
  simp [List.take_set_of_le]
theorem drop_set_self (l : List Nat) {k : Nat} (d : Nat) (h : k < l.length) : (l.set k d).drop k = d :: l.drop (k + 1) := by
  rw [List.drop_eq_getElem_cons (by simpa using h)]
  simp [List.drop_set_of_lt]
theorem pow_pos' {b : Nat} (hb : 0 < b) (n : Nat) : 0 < b ^ n := Nat.pow_pos hb
theorem mod_add_div' (b s : Nat) : s % b + b * (s / b) = s := Nat.mod_add_div s b
/-- a digit of a sum -/
theorem add_step {b k c s : Nat} {L X Y : List Nat} (hL : k < L.length) (hs : s = c + X.getD k 0 + Y.getD k 0)
    (h : valB b (L.take k) + b ^ k * c = valB b (X.take k) + valB b (Y.take k)) :
    valB b ((L.set k (s % b)).take (k + 1)) + b ^ (k + 1) * (s / b) = valB b (X.take (k + 1)) + valB b (Y.take (k + 1)) := by
  rw [take_set_succ L _ hL, valB_snoc, List.length_take, Nat.min_eq_left (by omega), valB_take_succ' b X, valB_take_succ' b Y, Nat.pow_succ, Nat.mul_assoc, Nat.add_assoc, ← Nat.mul_add, mod_add_div', hs, Nat.mul_add, Nat.mul_add]
  omega
/-- a digit of a difference: s + b = c' b + .. with the borrow c -/
theorem sub_step {b k c s c' : Nat} {L X Y : List Nat} (hL : k < L.length) (hs : s + Y.getD k 0 + c = X.getD k 0 + b * c')
    (h : valB b (L.take k) + valB b (Y.take k) = valB b (X.take k) + b ^ k * c) :
    valB b ((L.set k s).take (k + 1)) + valB b (Y.take (k + 1)) = valB b (X.take (k + 1)) + b ^ (k + 1) * c' := by
  rw [take_set_succ L _ hL, valB_snoc, List.length_take, Nat.min_eq_left (by omega), valB_take_succ' b X, valB_take_succ' b Y, Nat.pow_succ, Nat.mul_assoc]
  have h1 := congrArg (fun t => b ^ k * t) hs
  simp only [Nat.mul_add] at h1
  omega
/-- a digit of a product -/
theorem mul_step {b i j c s x V : Nat} {L Y : List Nat} (hL : i + j < L.length) (hs : s = c + x * Y.getD j 0 + L.getD (i + j) 0)
    (h : valB b L + b ^ (i + j) * c = V + b ^ i * (x * valB b (Y.take j))) :
    valB b (L.set (i + j) (s % b)) + b ^ (i + (j + 1)) * (s / b) = V + b ^ i * (x * valB b (Y.take (j + 1))) := by
  have h1 := valB_set b L (i + j) (s % b) hL
  have h2 : b ^ (i + j) * (s % b) + b ^ (i + (j + 1)) * (s / b) = b ^ (i + j) * s := by
    rw [← Nat.add_assoc, Nat.pow_succ, Nat.mul_assoc, ← Nat.mul_add, mod_add_div']
  rw [hs] at h2
  simp only [Nat.mul_add] at h2
  rw [← hs] at h2
  have h3 : b ^ i * (x * valB b (Y.take (j + 1))) = b ^ i * (x * valB b (Y.take j)) + b ^ (i + j) * (x * Y.getD j 0) := by
    rw [valB_take_succ' b Y, Nat.mul_add, Nat.mul_add, Nat.pow_add]
    congr 1
    rw [Nat.mul_assoc, Nat.mul_left_comm x]
  rw [h3]
  omega
theorem mul_last {b p c V : Nat} {L : List Nat} (hL : p < L.length) (h0 : L.getD p 0 = 0) (h : valB b L + b ^ p * c = V) : valB b (L.set p c) = V := by
  have h1 := valB_set b L p c hL
  rw [h0] at h1
  omega
/-- a digit of a quotient by one digit, from the top -/
theorem divw_step {b k r w s : Nat} {L X : List Nat} (hL : k < L.length) (hX : k < X.length) (hs : s = r * b + X.getD k 0)
    (h : valB b (X.drop (k + 1)) = valB b (L.drop (k + 1)) * w + r) :
    valB b (X.drop k) = valB b ((L.set k (s / w)).drop k) * w + s % w := by
  rw [drop_set_self L _ hL, valB_drop b X hX, h]
  simp only [valB]
  rw [Nat.mul_add, Nat.add_mul, hs]
  have := Nat.div_add_mod (r * b + X.getD k 0) w
  rw [Nat.mul_comm (_ / w) w, Nat.mul_comm b r, ← Nat.mul_assoc]
  omega
/-- a digit of a number that is shifted -/
theorem left_step {b k y v t h : Nat} {L X : List Nat} {m d : Nat} (hL : k + 1 < L.length) (hv : L.getD k 0 = v) (h0 : L.getD (k + 1) 0 = 0) (ht : t = v + y % b) (hh : h = y / b) (hd : X.getD k 0 = d) (hy : y = d * m)
    (hI : valB b L = valB b (X.take k) * m) : valB b ((L.set k t).set (k + 1) h) = valB b (X.take (k + 1)) * m := by
  have h1 := valB_set b L k t (by omega)
  have h2 := valB_set b (L.set k t) (k + 1) h (by simpa using hL)
  rw [getDn_set_ne (by omega), h0] at h2
  rw [hv] at h1
  rw [valB_take_succ', hd, Nat.add_mul, Nat.mul_assoc, ← hy, ← hI]
  have h3 : b ^ k * y = b ^ k * (y % b) + b ^ (k + 1) * h := by rw [Nat.pow_succ, Nat.mul_assoc, ← Nat.mul_add, hh, mod_add_div']
  have h4 : b ^ k * t = b ^ k * v + b ^ k * (y % b) := by rw [ht, Nat.mul_add]
  omega
end Go.Dw
