/- The plain law of Bytes and FromBytes: a sound is read as it was written, and nothing else is read. -/
import Derived.Test.YtlnjildkdmeflaaDoorYrd
import Derived.Test.YtlnjildkdmeflaaDoorPackLaw
import Derived.Lib.IndexBytes
set_option linter.unusedSimpArgs false
set_option linter.unusedVariables false
namespace Go.Proofs.YtlnjildkdmeflaaDoor
open Go.RowKit Go.Dw
theorem indexN_at {d r : List UInt8} {c : UInt8} (h : c ∉ d) : Lib.index (d ++ c :: r) [c] = d.length := by
  rw [Lib.index_one]
  induction d with
  | nil => simp [Lib.indexByte]
  | cons b d ih =>
    rw [List.mem_cons, not_or] at h
    have hi := ih h.2
    show (if b == c then 0 else if Lib.indexByte (d ++ c :: r) c == -1 then -1 else Lib.indexByte (d ++ c :: r) c + 1) = _
    rw [if_neg (by simpa using fun e => h.1 e.symm), hi, if_neg (by first | (simp; done) | (simp; omega))]
    simp
theorem indexN_no {d : List UInt8} {c : UInt8} (h : c ∉ d) : Lib.index d [c] = -1 := by
  rw [Lib.index_one]
  induction d with
  | nil => rfl
  | cons b d ih =>
    rw [List.mem_cons, not_or] at h
    show (if b == c then 0 else if Lib.indexByte d c == -1 then -1 else Lib.indexByte d c + 1) = _
    rw [if_neg (by simpa using fun e => h.1 e.symm), ih h.2]; rfl
theorem cutN_at {d r : List UInt8} {c : UInt8} (h : c ∉ d) : Lib.cut (d ++ c :: r) [c] = (d, r, true) := by
  unfold Lib.cut
  rw [indexN_at h, if_pos (by omega)]
  simp
theorem first_at {c : UInt8} : ∀ {d : List UInt8}, c ∈ d → ∃ p q, d = p ++ c :: q ∧ c ∉ p
  | b :: d, h => by
    by_cases hb : c = b
    · subst hb; exact ⟨[], d, rfl, by simp⟩
    · have h2 : c ∈ d := by
        rcases List.mem_cons.1 h with h | h
        · exact absurd h hb
        · exact h
      obtain ⟨p, q, e, hn⟩ := first_at h2
      refine ⟨b :: p, q, by rw [e]; rfl, ?_⟩
      rw [List.mem_cons, not_or]
      exact ⟨hb, hn⟩
theorem cutN_back {d : List UInt8} {c : UInt8} (h : (Lib.cut d [c]).2.2 = true) : d = (Lib.cut d [c]).1 ++ c :: (Lib.cut d [c]).2.1 := by
  by_cases hc : c ∈ d
  · obtain ⟨p, q, rfl, hn⟩ := first_at hc
    rw [cutN_at hn]
  · exfalso
    unfold Lib.cut at h
    rw [indexN_no hc, if_neg (by decide)] at h
    cases h
/-! notes -/
theorem name_zero {s : By} (h : nameN s = true) : (0 : UInt8) ∉ s := by
  unfold nameN at h
  simp only [Bool.and_eq_true, List.all_eq_true] at h
  intro h0
  have := h.2.2 0 h0
  revert this
  decide
theorem noteX_in {x : Nx} (h : noteX x = 0) : nameN x.1.data.toList = true ∧ textN x.2.data.toList = true ∧ x.1.data.toList.length ≤ 40 ∧ x.2.data.toList.length ≤ 200 := noteS_in h
theorem note_read {l : List Nx} {x : Nx} (h : noteX x = 0) (hl : l.length < 50) (hi : isIn l x.1.data.toList = false) : noteR l (noteC x).2 = some x := by
  have h1 := name_zero (noteX_in h).1
  have e : Lib.cut (noteC x).2 [0] = (x.1.data.toList, x.2.data.toList, true) := by
    unfold noteC
    rw [List.append_assoc]
    exact cutN_at h1
  unfold noteR
  rw [e, if_neg (by unfold noteX at h; rw [h, hi]; simp; omega), strB_of, strB_of]
theorem note_write {l : List Nx} {d : By} {x : Nx} (h : noteR l d = some x) : (noteC x).2 = d ∧ noteX x = 0 ∧ l.length ≠ 50 ∧ isIn l x.1.data.toList = false := by
  obtain ⟨h1, h2, h3, h4, h5, h6⟩ := noteR_in h
  refine ⟨?_, h2, h3, h4⟩
  unfold noteC
  rw [h5, h6, List.append_assoc]
  exact (cutN_back h1).symm
theorem notesF_cons {pre : List Nx} {n : Nx} {t : List Nx} (h : notesF pre (n :: t) = 0) : noteX n = 0 ∧ isIn pre n.1.data.toList = false ∧ notesF (pre ++ [n]) t = 0 := by
  unfold notesF at h
  by_cases h1 : noteX n ≠ 0
  · rw [if_pos h1] at h; exact absurd h h1
  · rw [if_neg h1] at h
    cases h2 : isIn pre n.1.data.toList with
    | true => rw [h2, if_pos rfl] at h; cases h
    | false =>
      rw [h2, if_neg (by simp)] at h
      exact ⟨by simpa using h1, rfl, h⟩
theorem notesF_mk {pre : List Nx} {n : Nx} {t : List Nx} (h1 : noteX n = 0) (h2 : isIn pre n.1.data.toList = false) (h3 : notesF (pre ++ [n]) t = 0) : notesF pre (n :: t) = 0 := by
  unfold notesF
  rw [if_neg (by simp [h1]), h2, if_neg (by simp)]
  exact h3
theorem fbS_some {n : Nat} {ps : List Int} {k : Nat} {st st' : Rd} {c : Ck} {t : List Ck} (h : stepS st c = some st') : fbR n ps k st (c :: t) = fbR n ps (k + 1) st' t := by
  cases st <;> (conv => lhs; unfold fbR; rw [h])
theorem fbS_none {n : Nat} {ps : List Int} {k : Nat} {st : Rd} {c : Ck} {t : List Ck} (h : stepS st c = none) : fbR n ps k st (c :: t) = fbErr (elOf ps k) 10 := by
  cases st <;> (unfold fbR; rw [h])
theorem notes_read (n : Nat) (ps : List Int) (r : Int) (T b m : Nat) (rest : List Ck) : ∀ (l pre : List Nx) (k : Nat), notesF pre l = 0 → pre.length + l.length ≤ 50 → fbR n ps k (.mid r T b m pre) (l.map noteC ++ rest) = fbR n ps (k + l.length) (.mid r T b m (pre ++ l)) rest
  | [], pre, k, _, _ => by simp
  | x :: l, pre, k, h, hl => by
    obtain ⟨h1, h2, h3⟩ := notesF_cons h
    rw [List.length_cons] at hl
    have hs : stepS (.mid r T b m pre) (noteC x) = some (.mid r T b m (pre ++ [x])) := by
      rw [stepS_mid, if_pos (show (noteC x).1 = [110, 111, 116, 101] from rfl), note_read h1 (by omega) h2]
      rfl
    rw [List.map_cons, List.cons_append, fbS_some hs, notes_read n ps r T b m rest l (pre ++ [x]) (k + 1) h3 (by simp; omega)]
    simp only [List.length_cons, List.append_assoc, List.singleton_append]
    rw [Nat.add_assoc, Nat.add_comm 1]
theorem notes_back (n : Nat) (ps : List Int) (r : Int) (T b m : Nat) : ∀ (L : List Ck) (pre : List Nx) (k : Nat), pre.length ≤ 50 → (fbR n ps k (.mid r T b m pre) L).2.2 = 0 →
    ∃ l d, L = l.map noteC ++ [([100, 97, 116, 97], d)] ∧ notesF pre l = 0 ∧ pre.length + l.length ≤ 50 ∧ d.length = b / 8 * T * m ∧ fbR n ps k (.mid r T b m pre) L = (((r, fillR b T m d), pre ++ l), 0, 0)
  | [], pre, k, _, h => by
    exfalso
    revert h
    show ¬ (10 : Int) = 0
    decide
  | c :: L, pre, k, hp, h => by
    by_cases h1 : c.1 = [110, 111, 116, 101]
    · cases hn : noteR pre c.2 with
      | none =>
        exfalso
        rw [fbS_none (by rw [stepS_mid, if_pos h1, hn]; rfl)] at h
        revert h
        show ¬ (10 : Int) = 0
        decide
      | some x =>
        have hs : stepS (.mid r T b m pre) c = some (.mid r T b m (pre ++ [x])) := by rw [stepS_mid, if_pos h1, hn]; rfl
        obtain ⟨w1, w2, w3, w4⟩ := note_write hn
        rw [fbS_some hs] at h ⊢
        obtain ⟨l, d, e, f1, f2, f3, f4⟩ := notes_back n ps r T b m L (pre ++ [x]) (k + 1) (by simp; omega) h
        refine ⟨x :: l, d, ?_, notesF_mk w2 w4 f1, by simp at f2 ⊢; omega, f3, ?_⟩
        · rw [e, List.map_cons, List.cons_append]
          congr 1
          obtain ⟨c1, c2⟩ := c
          dsimp only at h1 w1
          rw [h1, ← w1]
          rfl
        · rw [f4]; simp
    · by_cases h2 : c.1 = [100, 97, 116, 97] ∧ c.2.length = b / 8 * T * m
      · have hs : stepS (.mid r T b m pre) c = some (.fin r b m (fillR b T m c.2) pre) := by rw [stepS_mid, if_neg h1, if_pos h2]
        rw [fbS_some hs] at h ⊢
        cases L with
        | nil =>
          refine ⟨[], c.2, ?_, rfl, by simpa using hp, h2.2, by simp [fbR]⟩
          obtain ⟨c1, c2⟩ := c
          have h3 : c1 = [100, 97, 116, 97] := h2.1
          rw [h3]; rfl
        | cons c' L =>
          exfalso
          rw [fbS_none rfl] at h
          revert h
          show ¬ (10 : Int) = 0
          decide
      · exfalso
        rw [fbS_none (by rw [stepS_mid, if_neg h1, if_neg h2])] at h
        revert h
        show ¬ (10 : Int) = 0
        decide
/-! the form -/
theorem cut_mid {a x c : By} {p q : Nat} (hp : a.length = p) (hq : p + x.length = q) : cutB (a ++ (x ++ c)) p q = x := by
  unfold cutB
  rw [drop_seg hp, take_seg (z := []) (by omega)]
theorem form_read {r : Int} {n bits m : Nat} (hr : rateB r = true) (hn : n ≤ 16) (hb : bits = 16 ∨ bits = 24) (hm : m ≤ 100000) :
    (formB r n (bits : Int) m).length = 12 ∧ ((nAt (formB r n (bits : Int) m) 0 4 : Nat) : Int) = r ∧ nAt (formB r n (bits : Int) m) 4 6 = n ∧ nAt (formB r n (bits : Int) m) 6 8 = bits ∧ nAt (formB r n (bits : Int) m) 8 12 = m := by
  have hr2 : 1 ≤ r ∧ r ≤ 1000000 := by simpa [rateB] using hr
  obtain ⟨q, rfl⟩ : ∃ q : Nat, r = (q : Int) := ⟨r.toNat, by omega⟩
  have e : formB (q : Int) n (bits : Int) m = leZ (q : Int) 4 ++ (leZ (n : Int) 2 ++ (leZ (bits : Int) 2 ++ leZ (m : Int) 4)) := by unfold formB; simp only [List.append_assoc]
  have l1 := leZ_length (q : Int) 4
  have l2 := leZ_length (n : Int) 2
  have l3 := leZ_length (bits : Int) 2
  have l4 := leZ_length (m : Int) 4
  have hbl : bits < 65536 := by omega
  refine ⟨by rw [e]; simp only [List.length_append]; omega, ?_, ?_, ?_, ?_⟩
  · unfold nAt
    rw [e, show leZ (q : Int) 4 ++ (leZ (n : Int) 2 ++ (leZ (bits : Int) 2 ++ leZ (m : Int) 4)) = [] ++ (leZ (q : Int) 4 ++ (leZ (n : Int) 2 ++ (leZ (bits : Int) 2 ++ leZ (m : Int) 4))) from rfl, cut_mid (a := []) (p := 0) rfl (by rw [l1]), numB_leZ 4 q (by simp; omega)]
  · unfold nAt
    rw [e, cut_mid l1 (by rw [l2]), numB_leZ 2 n (by simp; omega)]
  · unfold nAt
    rw [e, ← List.append_assoc, cut_mid (by rw [List.length_append, l1, l2]) (by rw [l3]), numB_leZ 2 bits (by simpa using hbl)]
  · unfold nAt
    rw [e, ← List.append_assoc, ← List.append_assoc, show (leZ (q : Int) 4 ++ leZ (n : Int) 2 ++ leZ (bits : Int) 2) ++ leZ (m : Int) 4 = (leZ (q : Int) 4 ++ leZ (n : Int) 2 ++ leZ (bits : Int) 2) ++ (leZ (m : Int) 4 ++ []) by simp, cut_mid (by simp only [List.length_append, l1, l2, l3]) (by rw [l4]), numB_leZ 4 m (by simp; omega)]
theorem cut_le {d : By} {p k q : Nat} (hq : p + k = q) (h : q ≤ d.length) : leZ ((numB (cutB d p q) : Nat) : Int) k = cutB d p q := by
  have := leZ_numB (cutB d p q)
  rwa [cutB_length (by omega) h, show q - p = k by omega] at this
theorem form_write {d : By} (h : d.length = 12) : formB ((nAt d 0 4 : Nat) : Int) (nAt d 4 6) ((nAt d 6 8 : Nat) : Int) (nAt d 8 12) = d := by
  unfold formB nAt
  rw [cut_le (by omega) (by omega), cut_le (by omega) (by omega), cut_le (by omega) (by omega), cut_le (by omega) (by omega)]
  unfold cutB
  match d, h with
  | [a0, a1, a2, a3, a4, a5, a6, a7, a8, a9, a10, a11], _ => rfl
/-! the data -/
theorem leZ_mod : ∀ (k : Nat) (x y : Int), leZ (x + 256 ^ k * y) k = leZ x k
  | 0, _, _ => rfl
  | k + 1, x, y => by
    have e1 : (256 : Int) ^ (k + 1) * y = 256 * (256 ^ k * y) := by rw [Int.pow_succ, Int.mul_comm (256 ^ k) 256, Int.mul_assoc]
    have e2 : (x + 256 ^ (k + 1) * y) / 256 = x / 256 + 256 ^ k * y := by rw [e1]; omega
    have e3 : byteZ (x + 256 ^ (k + 1) * y) = byteZ x := by unfold byteZ; rw [e1, show (x + 256 * (256 ^ k * y)) % 256 = x % 256 by omega]
    show byteZ (x + 256 ^ (k + 1) * y) :: leZ ((x + 256 ^ (k + 1) * y) / 256) k = byteZ x :: leZ (x / 256) k
    rw [e2, e3, leZ_mod k (x / 256) y]
/-- one sample -/
theorem smp_write {b : Nat} (hb : b = 16 ∨ b = 24) {bs : By} (hl : bs.length = b / 8) : smpC (b : Int) (smpV b (numB bs)) = bs := by
  have h1 := numB_lt bs
  have h2 := leZ_numB bs
  rw [hl] at h1 h2
  obtain ⟨n, hn⟩ : ∃ n, numB bs = n := ⟨_, rfl⟩
  rw [hn] at h1 h2 ⊢
  rcases hb with rfl | rfl
  · simp only [Nat.reduceDiv] at h1 h2
    simp only [Nat.reducePow] at h1
    have hm := leZ_mod 2 ((n : Int) - 65536) 1
    simp only [Int.reducePow] at hm
    unfold smpC smpV
    simp only [Nat.reducePow, Nat.reduceSub, Int.reducePow]
    show leZ ((if 32768 ≤ n then (n : Int) - 65536 else (n : Int)) * 256 / 256) 2 = bs
    rw [Int.mul_ediv_cancel _ (by decide)]
    by_cases h : 32768 ≤ n
    · rw [if_pos h, ← hm, show (n : Int) - 65536 + 65536 * 1 = (n : Int) by omega, h2]
    · rw [if_neg h, h2]
  · simp only [Nat.reduceDiv] at h1 h2
    simp only [Nat.reducePow] at h1
    have hm := leZ_mod 3 ((n : Int) - 16777216) 1
    simp only [Int.reducePow] at hm
    unfold smpC smpV
    simp only [Nat.reducePow, Nat.reduceSub, Int.reducePow]
    show leZ ((if 8388608 ≤ n then (n : Int) - 16777216 else (n : Int)) * 1 / 1) 3 = bs
    rw [Int.mul_ediv_cancel _ (by decide)]
    by_cases h : 8388608 ≤ n
    · rw [if_pos h, ← hm, show (n : Int) - 16777216 + 16777216 * 1 = (n : Int) by omega, h2]
    · rw [if_neg h, h2]
theorem smp_read {b : Nat} (hb : b = 16 ∨ b = 24) {x : Int} (h1 : -8388608 ≤ x) (h2 : x ≤ 8388607) (he : b = 16 → x % 256 = 0) : smpV b (numB (smpC (b : Int) x)) = x := by
  rcases hb with rfl | rfl
  · have he := he rfl
    have hm := leZ_mod 2 (x / 256) 1
    simp only [Int.reducePow] at hm
    unfold smpC smpV
    simp only [Nat.reducePow, Nat.reduceSub, Int.reducePow]
    show (if 32768 ≤ numB (leZ (x / 256) 2) then ((numB (leZ (x / 256) 2) : Nat) : Int) - 65536 else ((numB (leZ (x / 256) 2) : Nat) : Int)) * 256 = x
    by_cases h0 : 0 ≤ x
    · obtain ⟨q, hq⟩ : ∃ q : Nat, x / 256 = (q : Int) := ⟨(x / 256).toNat, by omega⟩
      rw [hq, numB_leZ 2 q (by simp; omega), if_neg (by omega)]
      omega
    · obtain ⟨q, hq⟩ : ∃ q : Nat, x / 256 + 65536 * 1 = (q : Int) := ⟨(x / 256 + 65536 * 1).toNat, by omega⟩
      rw [← hm, hq, numB_leZ 2 q (by simp; omega), if_pos (by omega)]
      omega
  · have hm := leZ_mod 3 x 1
    simp only [Int.reducePow] at hm
    unfold smpC smpV
    simp only [Nat.reducePow, Nat.reduceSub, Int.reducePow]
    show (if 8388608 ≤ numB (leZ (x / 1) 3) then ((numB (leZ (x / 1) 3) : Nat) : Int) - 16777216 else ((numB (leZ (x / 1) 3) : Nat) : Int)) * 1 = x
    rw [Int.ediv_one]
    by_cases h0 : 0 ≤ x
    · obtain ⟨q, hq⟩ : ∃ q : Nat, x = (q : Int) := ⟨x.toNat, by omega⟩
      rw [hq, numB_leZ 3 q (by simp; omega), if_neg (by omega)]
      omega
    · obtain ⟨q, hq⟩ : ∃ q : Nat, x + 16777216 * 1 = (q : Int) := ⟨(x + 16777216 * 1).toNat, by omega⟩
      rw [← hm, hq, numB_leZ 3 q (by simp; omega), if_pos (by omega)]
      omega
theorem smpC_length (b : Nat) (x : Int) : (smpC (b : Int) x).length = b / 8 := by
  unfold smpC
  rw [leZ_length]
  omega
theorem flat_congr {α : Type} {f g : α → By} : ∀ {l : List α}, (∀ x ∈ l, f x = g x) → l.flatMap f = l.flatMap g
  | [], _ => rfl
  | x :: l, h => by rw [List.flatMap_cons, List.flatMap_cons, h x (by simp), flat_congr fun y hy => h y (by simp [hy])]
/-- pieces of one length, one after another -/
theorem flat_length {α : Type} {f : α → By} {k : Nat} : ∀ {l : List α}, (∀ x ∈ l, (f x).length = k) → (l.flatMap f).length = l.length * k
  | [], _ => by simp
  | x :: l, h => by
    rw [List.flatMap_cons, List.length_append, h x (by simp), flat_length (fun y hy => h y (by simp [hy])), List.length_cons, Nat.add_mul]; omega
theorem flat_cut {α : Type} {f : α → By} {k : Nat} : ∀ {l : List α} {j : Nat} (hj : j < l.length), (∀ x ∈ l, (f x).length = k) → cutB (l.flatMap f) (j * k) (j * k + k) = f (l[j]'hj)
  | x :: l, 0, _, h => by
    rw [List.flatMap_cons, Nat.zero_mul, Nat.zero_add]
    exact cut_mid (a := []) (p := 0) rfl (by rw [h x (by simp)]; omega)
  | x :: l, j + 1, hj, h => by
    have ih := flat_cut (l := l) (j := j) (by simpa using hj) (fun y hy => h y (by simp [hy]))
    rw [List.flatMap_cons, List.getElem_cons_succ, ← ih]
    unfold cutB
    rw [Nat.add_sub_cancel_left, Nat.add_sub_cancel_left, show (j + 1) * k = k + j * k by rw [Nat.add_mul]; omega, ← List.drop_drop, drop_seg (h x (by simp))]
theorem flat_back {k : Nat} : ∀ (n : Nat) (d : By) (p : Nat), p + n * k ≤ d.length → ((List.range n).flatMap fun j => cutB d (p + j * k) (p + j * k + k)) = cutB d p (p + n * k)
  | 0, d, p, _ => by simp [cutB]
  | n + 1, d, p, h => by
    rw [Nat.add_mul, Nat.one_mul] at h ⊢
    rw [List.range_succ, List.flatMap_append, flat_back n d p (by omega)]
    simp only [List.flatMap_cons, List.flatMap_nil, List.append_nil]
    unfold cutB
    rw [show p + (n * k + k) - p = n * k + k by omega, show p + n * k - p = n * k by omega, show p + n * k + k - (p + n * k) = k by omega, ← List.drop_drop, List.take_add]
theorem row_at {xss : List (List Int)} {t : Nat} (ht : t < xss.length) : xss[t] = rowOf xss t := by simp [rowOf, List.getD, ht]
theorem colB_length {b : Nat} (xss : List (List Int)) (i : Nat) : (colB (b : Int) xss i).length = xss.length * (b / 8) := flat_length fun l _ => smpC_length b _
theorem dataB_length {b : Nat} (xss : List (List Int)) (m : Nat) : (dataB (b : Int) xss m).length = m * (xss.length * (b / 8)) := by
  unfold dataB
  rw [flat_length (k := xss.length * (b / 8)) fun i _ => colB_length xss i, List.length_range]
theorem cut_cut (d : By) {p q n k : Nat} (h : q + k ≤ n) : cutB (cutB d p (p + n)) q (q + k) = cutB d (p + q) (p + q + k) := by
  unfold cutB
  rw [List.drop_take, List.drop_drop, List.take_take, show p + n - p = n by omega, show q + k - q = k by omega, show p + q + k - (p + q) = k by omega, Nat.min_eq_left (by omega)]
theorem data_read {b : Nat} (hb : b = 16 ∨ b = 24) {r : Int} {xss : List (List Int)} (ho : OkS r xss) (he : b = 16 → evenB xss = true) : fillR b xss.length (len0 xss) (dataB (b : Int) xss (len0 xss)) = xss := by
  refine List.ext_getElem (fillR_length _ _ _ _) fun t h1 h2 => ?_
  rw [row_at h1, row_at h2, fillR_row _ h2]
  have hm := (ho.rows (rowOf xss t) (by rw [← row_at h2]; exact List.getElem_mem _))
  refine List.ext_getElem (by simp [hm.1]) fun i h3 h4 => ?_
  simp only [List.length_map, List.length_range] at h3
  have hx : (rowOf xss t)[i] = elOf (rowOf xss t) i := by simp [elOf, List.getD, h4]
  rw [List.getElem_map, List.getElem_range, hx]
  unfold smpR
  have hpos : (i * xss.length + t) * (b / 8) = i * (xss.length * (b / 8)) + t * (b / 8) := by rw [Nat.add_mul, Nat.mul_assoc]
  have hle : t * (b / 8) + b / 8 ≤ xss.length * (b / 8) := by
    have := Nat.mul_le_mul_right (b / 8) (show t + 1 ≤ xss.length from h2)
    rwa [Nat.add_mul, Nat.one_mul] at this
  rw [hpos, ← cut_cut _ hle]
  have e1 : cutB (dataB (b : Int) xss (len0 xss)) (i * (xss.length * (b / 8))) (i * (xss.length * (b / 8)) + xss.length * (b / 8)) = colB (b : Int) xss i := by
    unfold dataB
    rw [flat_cut (l := List.range (len0 xss)) (j := i) (by simpa using h3) (fun x _ => colB_length xss x), List.getElem_range]
  have e2 : cutB (colB (b : Int) xss i) (t * (b / 8)) (t * (b / 8) + b / 8) = smpC (b : Int) (elOf (rowOf xss t) i) := by
    unfold colB
    rw [flat_cut h2 (fun l _ => smpC_length b _), row_at h2]
  rw [e1, e2]
  have hs : smpB (elOf (rowOf xss t) i) = true := List.all_eq_true.1 hm.2 _ (by rw [← hx]; exact List.getElem_mem _)
  simp only [smpB, Bool.and_eq_true, decide_eq_true_eq] at hs
  refine smp_read hb hs.1 hs.2 fun h16 => ?_
  have h5 := he h16
  unfold evenB at h5
  have h6 := List.all_eq_true.1 (List.all_eq_true.1 h5 (rowOf xss t) (by rw [← row_at h2]; exact List.getElem_mem _)) (elOf (rowOf xss t) i) (by rw [← hx]; exact List.getElem_mem _)
  simpa using h6
theorem data_write {b : Nat} (hb : b = 16 ∨ b = 24) {T m : Nat} {d : By} (hd : d.length = b / 8 * T * m) : dataB (b : Int) (fillR b T m d) m = d := by
  have e1 : ∀ i, i < m → colB (b : Int) (fillR b T m d) i = cutB d (i * (T * (b / 8))) (i * (T * (b / 8)) + T * (b / 8)) := fun i hi => by
    have hle : (i + 1) * (T * (b / 8)) ≤ d.length := by
      rw [hd, Nat.mul_comm (b / 8) T, Nat.mul_comm (T * (b / 8)) m]
      exact Nat.mul_le_mul_right _ hi
    rw [Nat.add_mul, Nat.one_mul] at hle
    rw [← flat_back T d (i * (T * (b / 8))) hle]
    unfold colB fillR
    rw [List.flatMap_map]
    refine flat_congr fun t ht => ?_
    have ht := List.mem_range.1 ht
    have hel : elOf ((List.range m).map fun i => smpR b T d i t) i = smpR b T d i t := by simp [elOf, List.getD, hi]
    rw [hel]
    unfold smpR
    have hpos : (i * T + t) * (b / 8) = i * (T * (b / 8)) + t * (b / 8) := by rw [Nat.add_mul, Nat.mul_assoc]
    have hle2 : t * (b / 8) + b / 8 ≤ T * (b / 8) := by
      have := Nat.mul_le_mul_right (b / 8) (show t + 1 ≤ T from ht)
      rwa [Nat.add_mul, Nat.one_mul] at this
    rw [hpos, smp_write hb (by rw [cutB_length (by omega) (by omega)]; omega)]
  unfold dataB
  rw [show (List.range m).flatMap (colB (b : Int) (fillR b T m d)) = (List.range m).flatMap (fun i => cutB d (0 + i * (T * (b / 8))) (0 + i * (T * (b / 8)) + T * (b / 8))) from flat_congr fun i hi => by rw [e1 i (List.mem_range.1 hi), Nat.zero_add]]
  have hl : d.length = m * (T * (b / 8)) := by rw [hd, Nat.mul_comm (b / 8) T, Nat.mul_comm (T * (b / 8)) m]
  rw [flat_back m d 0 (by omega)]
  unfold cutB
  rw [List.drop_zero, List.take_of_length_le (by omega)]
/-! the whole -/
theorem chkT_ok {m : Nat} : ∀ {xss : List (List Int)}, (∀ t ∈ xss, t.length = m ∧ t.all smpB = true) → chkT m xss = 0
  | [], _ => rfl
  | t :: ts, h => by
    unfold chkT
    rw [if_neg (by simp [(h t (by simp)).1]), if_pos (h t (by simp)).2]
    exact chkT_ok fun u hu => h u (by simp [hu])
theorem chk_of {r : Int} {xss : List (List Int)} (h : OkS r xss) : chkS r xss = 0 := by
  unfold chkS
  have h1 := h.some
  have h2 := h.few
  have h3 := h.long
  rw [h.rate, if_neg (by simp), if_neg (by omega), if_neg (by omega)]
  exact chkT_ok h.rows
theorem bytes_read {r : Int} {xss : List (List Int)} {bits : Int} {l : List Nx} {x : By} (h : bytesS r xss bits l = (x, 0)) : fbS x = (((r, xss), l), 0, 0) := by
  unfold bytesS at h
  by_cases h1 : chkS r xss ≠ 0
  · rw [if_pos h1] at h; injection h with _ h; exact absurd h h1
  by_cases h2 : bits ≠ 16 ∧ bits ≠ 24
  · rw [if_neg h1, if_pos h2] at h; injection h with _ h; cases h
  by_cases h3 : bits = 16 ∧ evenB xss = false
  · rw [if_neg h1, if_neg h2, if_pos h3] at h; injection h with _ h; cases h
  by_cases h4 : 50 < l.length
  · rw [if_neg h1, if_neg h2, if_neg h3, if_pos h4] at h; injection h with _ h; cases h
  by_cases h5 : notesF [] l ≠ 0
  · rw [if_neg h1, if_neg h2, if_neg h3, if_neg h4, if_pos h5] at h; injection h with _ h; exact absurd h h5
  rw [if_neg h1, if_neg h2, if_neg h3, if_neg h4, if_neg h5] at h
  have ho := chkS_ok (by simpa using h1)
  obtain ⟨b, hb, rfl⟩ : ∃ b : Nat, (b = 16 ∨ b = 24) ∧ bits = (b : Int) := by
    by_cases h6 : bits = 16
    · exact ⟨16, .inl rfl, h6⟩
    · exact ⟨24, .inr rfl, by omega⟩
  have he : b = 16 → evenB xss = true := fun hb16 => by
    cases h7 : evenB xss with
    | true => rfl
    | false => exact absurd ⟨by rw [hb16]; rfl, h7⟩ h3
  have hn : notesF [] l = 0 := by simpa using h5
  obtain ⟨ps, hp⟩ := placed_pack h
  obtain ⟨f1, f2, f3, f4, f5⟩ := form_read (n := xss.length) ho.rate ho.few hb ho.long
  have hG : formG r xss.length b (len0 xss) = true := by
    unfold formG
    rw [ho.rate, decide_eq_true (show 1 ≤ xss.length from ho.some), decide_eq_true ho.few, decide_eq_true hb, decide_eq_true ho.long]; rfl
  have hs : stepS .start ([102, 111, 114, 109], formB r xss.length (b : Int) (len0 xss)) = some (.mid r xss.length b (len0 xss) []) := by
    have hfo : formOk (formB r xss.length (b : Int) (len0 xss)) = true := by
      unfold formOk
      rw [f1, f2, f3, f4, f5, hG]; rfl
    rw [stepS_start, if_pos ⟨rfl, hfo⟩]
    · show some (Rd.mid ((nAt (formB r xss.length (b : Int) (len0 xss)) 0 4 : Nat) : Int) (nAt (formB r xss.length (b : Int) (len0 xss)) 4 6) (nAt (formB r xss.length (b : Int) (len0 xss)) 6 8) (nAt (formB r xss.length (b : Int) (len0 xss)) 8 12) []) = _
      rw [f2, f3, f4, f5]
  have hd : stepS (.mid r xss.length b (len0 xss) l) ([100, 97, 116, 97], dataB (b : Int) xss (len0 xss)) = some (.fin r b (len0 xss) xss l) := by
    have hdl : (dataB (b : Int) xss (len0 xss)).length = b / 8 * xss.length * len0 xss := by rw [dataB_length, Nat.mul_comm (b / 8) xss.length, Nat.mul_comm (xss.length * (b / 8)) (len0 xss)]
    rw [stepS_mid, if_neg (show ¬ ([100, 97, 116, 97] : By) = [110, 111, 116, 101] by decide), if_pos ⟨rfl, hdl⟩]
    · show some (Rd.fin r b (len0 xss) (fillR b xss.length (len0 xss) (dataB (b : Int) xss (len0 xss))) l) = _
      rw [data_read hb ho he]
  unfold fbS
  rw [hp, if_neg (show ¬ ((0 : Int) ≠ 0) by decide)]
  show fbR x.length ps 0 .start (cksB r xss (b : Int) l) = _
  unfold cksB
  rw [List.cons_append, fbS_some hs, notes_read _ _ _ _ _ _ _ l [] _ hn (by simp; omega), List.nil_append, fbS_some hd]
  rfl
theorem fbR_err (n : Nat) (ps : List Int) : ∀ (L : List Ck) (k : Nat) (st : Rd), (fbR n ps k st L).2.2 ≠ 0 → (fbR n ps k st L).1 = ((0, []), [])
  | [], k, st, h => by
    cases st with
    | start => rfl
    | mid r T b m l => rfl
    | fin r b m xss l => exact absurd rfl h
  | c :: L, k, st, h => by
    cases hs : stepS st c with
    | none => rw [fbS_none hs]; rfl
    | some st' =>
      rw [fbS_some hs] at h ⊢
      exact fbR_err n ps L (k + 1) st' h
theorem fbS_err {b : By} (h : (fbS b).2.2 ≠ 0) : (fbS b).1 = ((0, []), []) := by
  unfold fbS at h ⊢
  by_cases h1 : (placedS b).2.2 ≠ 0
  · rw [if_pos h1]; rfl
  · rw [if_neg h1] at h ⊢
    exact fbR_err _ _ _ _ _ h
theorem smpV_even (n : Nat) : smpV 16 n % 256 = 0 := by
  unfold smpV
  simp only [Nat.reducePow, Nat.reduceSub, Int.reducePow]
  omega
theorem bytes_back {b : By} (h : (fbS b).2.2 = 0) : ∃ (r : Int) (xss : List (List Int)) (l : List Nx) (bb : Nat), (bb = 16 ∨ bb = 24) ∧ fbS b = (((r, xss), l), 0, 0) ∧ bytesS r xss (bb : Int) l = (b, 0) := by
  unfold fbS at h
  by_cases h1 : (placedS b).2.2 ≠ 0
  · rw [if_pos h1] at h; exact absurd h h1
  obtain ⟨⟨⟨m, ps⟩, z, f⟩, hP⟩ : ∃ P, placedS b = P := ⟨_, rfl⟩
  have hf : f = 0 := by rw [hP] at h1; simpa using h1
  subst hf
  obtain ⟨hk, _, _, _⟩ := placed_back hP
  rw [if_neg h1, hP] at h
  have e0 : fbS b = fbR b.length ps 0 .start m := by unfold fbS; rw [if_neg h1, hP]
  dsimp only at h
  cases m with
  | nil =>
    exfalso
    revert h
    show ¬ (10 : Int) = 0
    decide
  | cons c L =>
    by_cases hs : c.1 = [102, 111, 114, 109] ∧ formOk c.2 = true
    · have hst : stepS .start c = some (.mid ((nAt c.2 0 4 : Nat) : Int) (nAt c.2 4 6) (nAt c.2 6 8) (nAt c.2 8 12) []) := by rw [stepS_start, if_pos hs]
      obtain ⟨hl, hG⟩ := formOk_in hs.2
      have hw := form_write hl
      rw [fbS_some hst] at h e0
      obtain ⟨l, d, e1, e2, e3, e4, e5⟩ := notes_back _ _ _ _ _ _ L [] _ (by simp) h
      rw [e5, List.nil_append] at e0
      obtain ⟨r, hr⟩ : ∃ r : Int, ((nAt c.2 0 4 : Nat) : Int) = r := ⟨_, rfl⟩
      obtain ⟨T, hT⟩ : ∃ T, nAt c.2 4 6 = T := ⟨_, rfl⟩
      obtain ⟨bb, hbb⟩ : ∃ bb, nAt c.2 6 8 = bb := ⟨_, rfl⟩
      obtain ⟨q, hq⟩ : ∃ q, nAt c.2 8 12 = q := ⟨_, rfl⟩
      rw [hr, hT, hbb, hq] at hG hw
      rw [hr, hT, hbb, hq] at e0
      rw [hT, hbb, hq] at e4
      obtain ⟨g1, g2, g3, g4, g5⟩ := formG_in hG
      have hrow : ∀ t ∈ fillR bb T q d, t.length = q ∧ t.all smpB = true := fun t ht => by
        unfold fillR at ht
        obtain ⟨j, hj, rfl⟩ := List.mem_map.1 ht
        have hj := List.mem_range.1 hj
        refine ⟨by simp, List.all_eq_true.2 fun y hy => ?_⟩
        obtain ⟨i, hi, rfl⟩ := List.mem_map.1 hy
        have hi := List.mem_range.1 hi
        have hpos : (i * T + j) * (bb / 8) + bb / 8 ≤ d.length := by
          have h1 : (i + 1) * T ≤ q * T := Nat.mul_le_mul_right T hi
          have h2 : i * T + j + 1 ≤ q * T := by rw [Nat.add_mul] at h1; omega
          have h3 := Nat.mul_le_mul_right (bb / 8) h2
          rw [Nat.add_mul (i * T + j)] at h3
          rw [e4, Nat.mul_comm (bb / 8) T, Nat.mul_comm (T * (bb / 8)) q, ← Nat.mul_assoc]
          omega
        have hlt := numB_lt (cutB d ((i * T + j) * (bb / 8)) ((i * T + j) * (bb / 8) + bb / 8))
        rw [cutB_length (by omega) hpos, Nat.add_sub_cancel_left] at hlt
        have hrng := smpV_rng (b := bb) (n := numB (cutB d ((i * T + j) * (bb / 8)) ((i * T + j) * (bb / 8) + bb / 8))) g4 (by rcases g4 with rfl | rfl <;> simpa using hlt)
        unfold smpB smpR
        rw [decide_eq_true hrng.1, decide_eq_true hrng.2]; rfl
      have h0 : len0 (fillR bb T q d) = q := by
        have : (fillR bb T q d).getD 0 [] = rowOf (fillR bb T q d) 0 := rfl
        unfold len0
        rw [this, fillR_row d (by omega)]; simp
      have ho : OkS r (fillR bb T q d) := ⟨g1, by rw [fillR_length]; omega, by rw [fillR_length]; exact g3, by rw [h0]; exact g5, by rw [h0]; exact hrow⟩
      refine ⟨r, fillR bb T q d, l, bb, g4, e0, ?_⟩
      unfold bytesS
      rw [if_neg (by simp [chk_of ho]), if_neg (by omega), if_neg ?_, if_neg (by simp at e3; omega), if_neg (by simp [e2])]
      · have hc : cksB r (fillR bb T q d) (bb : Int) l = c :: L := by
          unfold cksB
          rw [fillR_length, h0, hw, data_write g4 e4, e1, List.cons_append]
          obtain ⟨c1, c2⟩ := c
          have h8 : c1 = [102, 111, 114, 109] := hs.1
          rw [h8]
        rw [hc, hk]
      · rintro ⟨h6, h7⟩
        have h6 : bb = 16 := by omega
        subst h6
        have h8 : evenB (fillR 16 T q d) = true := List.all_eq_true.2 fun t ht => by
          unfold fillR at ht
          obtain ⟨j, hj, rfl⟩ := List.mem_map.1 ht
          refine List.all_eq_true.2 fun y hy => ?_
          obtain ⟨i, hi, rfl⟩ := List.mem_map.1 hy
          unfold smpR
          rw [decide_eq_true (smpV_even _)]
        rw [h8] at h7
        cases h7
    · exfalso
      rw [fbS_none (by rw [stepS_start, if_neg hs])] at h
      revert h
      show ¬ (10 : Int) = 0
      decide
end Go.Proofs.YtlnjildkdmeflaaDoor
