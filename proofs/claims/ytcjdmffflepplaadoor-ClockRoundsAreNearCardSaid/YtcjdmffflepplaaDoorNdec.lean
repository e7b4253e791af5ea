/- Decimal numerals: plain arithmetic, no program in sight. -/
import Derived.Test.YtcjdmffflepplaaDoorNv
import Derived.Lib.ItoaNum
set_option linter.unusedSimpArgs false
set_option linter.unusedVariables false
namespace Go.Dw
/-- the number of decimal digits -/
def decV (l : List UInt8) : Nat := l.foldl (fun a c => 10 * a + (c.toNat - 48)) 0
/-- a row of digits -/
def AllDig (l : List UInt8) : Prop := ∀ c ∈ l, 48 ≤ c.toNat ∧ c.toNat ≤ 57
theorem decV_nil : decV [] = 0 := rfl
theorem decV_snoc (l : List UInt8) (c : UInt8) : decV (l ++ [c]) = 10 * decV l + (c.toNat - 48) := by simp [decV, List.foldl_append]
theorem decV_fold : ∀ (l : List UInt8) (a : Nat), l.foldl (fun a c => 10 * a + (c.toNat - 48)) a = 10 ^ l.length * a + decV l
  | [], a => by simp [decV]
  | c :: l, a => by
    have h1 := decV_fold l (10 * a + (c.toNat - 48))
    have h2 := decV_fold l (c.toNat - 48)
    have h3 : decV (c :: l) = 10 ^ l.length * (c.toNat - 48) + decV l := by
      show List.foldl _ (10 * 0 + (c.toNat - 48)) l = _
      rw [Nat.mul_zero, Nat.zero_add]; exact h2
    rw [List.foldl_cons, h1, h3, List.length_cons, Nat.pow_succ, Nat.mul_add, Nat.mul_assoc]
    omega
theorem decV_append (l r : List UInt8) : decV (l ++ r) = 10 ^ r.length * decV l + decV r := by
  show List.foldl _ 0 (l ++ r) = _
  rw [List.foldl_append]
  exact decV_fold r (decV l)
theorem AllDig.take {l : List UInt8} (h : AllDig l) (n : Nat) : AllDig (l.take n) := fun c hc => h c (List.mem_of_mem_take hc)
theorem AllDig.drop {l : List UInt8} (h : AllDig l) (n : Nat) : AllDig (l.drop n) := fun c hc => h c (List.mem_of_mem_drop hc)
theorem decV_lt : ∀ {l : List UInt8}, AllDig l → decV l < 10 ^ l.length
  | [], _ => by simp [decV]
  | c :: l, h => by
    have h1 := decV_lt (l := l) (fun x hx => h x (by simp [hx]))
    have h2 := h c (by simp)
    have h3 : decV (c :: l) = 10 ^ l.length * (c.toNat - 48) + decV l := by
      have := decV_append [c] l
      simpa [decV] using this
    have h4 := Nat.mul_le_mul_left (10 ^ l.length) (show c.toNat - 48 ≤ 9 by omega)
    rw [h3, List.length_cons, Nat.pow_succ]
    omega
theorem decV_take_succ {l : List UInt8} {i : Nat} (h : i < l.length) : decV (l.take (i + 1)) = 10 * decV (l.take i) + ((l.getD i 0).toNat - 48) := by
  rw [List.take_succ_eq_append_getElem h, decV_snoc]
  simp [List.getD, h]
/-- the digits of a number from the least one on are its numeral from the last byte on -/
theorem decDigits_of : ∀ {L : List Nat} {u : Nat}, CanN 10 L → valB 10 L = u → 0 < u → Lib.decDigits u = (L.reverse.map fun d => UInt8.ofNat (48 + d))
  | [], u, _, hv, h0 => by simp [valB] at hv; omega
  | d :: L, u, hc, hv, h0 => by
    have hd := hc.1.head
    simp only [valB] at hv
    by_cases hL : L = []
    · subst hL
      have hu : u = d := by simp [valB] at hv; omega
      subst hu
      rw [Lib.decDigits, dif_pos hd]
      simp
    · have hp : 0 < valB 10 L := Nat.pos_of_ne_zero fun e => hL (hc.tail.zero (by omega) e)
      have hb : ¬ u < 10 := by omega
      rw [Lib.decDigits, dif_neg hb, decDigits_of (L := L) (u := u / 10) hc.tail (by omega) (by omega), show u % 10 = d by omega]
      simp
theorem decV_decDigits (u : Nat) : decV (Lib.decDigits u) = u := by
  induction u using Nat.strongRecOn with
  | _ u ih =>
    by_cases h : u < 10
    · rw [Lib.decDigits, dif_pos h]
      simp only [decV, List.foldl_cons, List.foldl_nil, UInt8.toNat_ofNat']
      omega
    · rw [Lib.decDigits, dif_neg h, decV_snoc, ih (u / 10) (by omega), UInt8.toNat_ofNat']
      omega
theorem allDig_decDigits (u : Nat) : AllDig (Lib.decDigits u) := by
  induction u using Nat.strongRecOn with
  | _ u ih =>
    by_cases h : u < 10
    · rw [Lib.decDigits, dif_pos h]
      intro c hc
      simp only [List.mem_singleton] at hc
      subst hc
      rw [UInt8.toNat_ofNat']
      omega
    · rw [Lib.decDigits, dif_neg h]
      intro c hc
      rcases List.mem_append.1 hc with h1 | h1
      · exact ih (u / 10) (by omega) c h1
      · simp only [List.mem_singleton] at h1
        subst h1
        rw [UInt8.toNat_ofNat']
        omega
/-- a numeral without a needless 0 is that of its number -/
theorem decDigits_decV : ∀ (n : Nat) (l : List UInt8), l.length = n → AllDig l → l ≠ [] → (l = [48] ∨ l.head? ≠ some 48) → Lib.decDigits (decV l) = l
  | 0, l, hn, _, h0, _ => absurd (List.eq_nil_of_length_eq_zero hn) h0
  | n + 1, l, hn, hd, h0, hz => by
    obtain ⟨r, c, rfl⟩ : ∃ r c, l = r ++ [c] := ⟨l.dropLast, l.getLast h0, (List.dropLast_concat_getLast h0).symm⟩
    have hcd := hd c (by simp)
    have hc : UInt8.ofNat (48 + (c.toNat - 48)) = c := by
      apply UInt8.toNat_inj.1
      rw [UInt8.toNat_ofNat']
      omega
    rw [decV_snoc]
    by_cases hr : r = []
    · subst hr
      rw [decV_nil, Nat.mul_zero, Nat.zero_add, Lib.decDigits, dif_pos (by omega), hc]
      rfl
    · obtain ⟨x, r', rfl⟩ : ∃ x r', r = x :: r' := by
        cases r with
        | nil => exact absurd rfl hr
        | cons x r' => exact ⟨x, r', rfl⟩
      have hx : x ≠ 48 := by
        rcases hz with hz | hz
        · simp at hz
        · intro e; exact hz (by simp [e])
      have hxd := hd x (by simp)
      have hdr : AllDig (x :: r') := fun y hy => hd y (by simp at hy ⊢; rcases hy with h | h; exact .inl h; exact .inr (.inl h))
      have hpos : 0 < decV (x :: r') := by
        have h3 : decV (x :: r') = 10 ^ r'.length * (x.toNat - 48) + decV r' := by
          have := decV_append [x] r'
          simpa [decV] using this
        have h4 : x.toNat ≠ 48 := fun e => hx (UInt8.toNat_inj.1 (by rw [e]; rfl))
        have h5 := Nat.mul_le_mul_left (10 ^ r'.length) (show 1 ≤ x.toNat - 48 by omega)
        have h6 := Nat.pow_pos (n := r'.length) (show 0 < 10 by omega)
        omega
      have hrec := decDigits_decV n (x :: r') (by simp at hn ⊢; omega) hdr (by simp) (.inr (by simp [hx]))
      rw [Lib.decDigits, dif_neg (by omega), show (10 * decV (x :: r') + (c.toNat - 48)) / 10 = decV (x :: r') by omega, show (10 * decV (x :: r') + (c.toNat - 48)) % 10 = c.toNat - 48 by omega, hrec, hc]
/-- a number of as many digits that is not less has no needless 0 either -/
theorem CanN.of_le {b : Nat} (hb : 0 < b) {L M : List Nat} (hL : CanN b L) (hM : DigN b M) (hn : M.length = L.length) (hv : valB b L ≤ valB b M) : CanN b M := by
  refine ⟨hM, fun e => ?_⟩
  have hM0 : M ≠ [] := by intro h; rw [h] at e; simp at e
  obtain ⟨r, d, rfl⟩ : ∃ r d, M = r ++ [d] := ⟨M.dropLast, M.getLast hM0, (List.dropLast_concat_getLast hM0).symm⟩
  have hd : d = 0 := by simpa using e
  subst hd
  have h1 := hL.ge (by intro h; rw [h] at hn; simp at hn)
  have h2 := valB_lt (b := b) (l := r) (fun x hx => hM x (by simp [hx]))
  rw [valB_snoc] at hv
  rw [← hn, List.length_append, List.length_singleton, Nat.add_sub_cancel] at h1
  omega
theorem ten_pow_lt {l u n : Nat} (h1 : 10 ^ l ≤ u) (h2 : u < 4294967296 ^ n) : l < 32 * n := by
  have h3 : 2 ^ l ≤ 10 ^ l := Nat.pow_le_pow_left (by omega) l
  have h4 : (4294967296 : Nat) ^ n = 2 ^ (32 * n) := by rw [Nat.pow_mul]
  rw [h4] at h2
  exact (Nat.pow_lt_pow_iff_right (by omega)).1 (show 2 ^ l < 2 ^ (32 * n) by omega)
end Go.Dw
