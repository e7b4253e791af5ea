/- The plain functions of chapter 2, continued: Fade. No program in sight. -/
import Derived.Test.YtpnbkkpbgpcgiaaSpecE
set_option linter.unusedSimpArgs false
set_option linter.unusedVariables false
namespace Go.Dw
/-- what is written over element by element: the done elements are those of Y, the others those of X -/
structure MixOf (X Y zss : List (List Int)) (m : Nat) (done : Nat → Nat → Prop) : Prop where
  len : zss.length = X.length
  rows : ∀ a, a < X.length → (rowOf zss a).length = m
  yes : ∀ a i, a < X.length → i < m → done a i → elOf (rowOf zss a) i = elOf (rowOf Y a) i
  no : ∀ a i, a < X.length → i < m → ¬ done a i → elOf (rowOf zss a) i = elOf (rowOf X a) i
theorem MixOf.start {X Y : List (List Int)} {m : Nat} {done : Nat → Nat → Prop} (hm : ∀ a, a < X.length → (rowOf X a).length = m) (h : ∀ a i, a < X.length → i < m → done a i → elOf (rowOf X a) i = elOf (rowOf Y a) i) : MixOf X Y X m done :=
  ⟨rfl, hm, h, fun _ _ _ _ _ => rfl⟩
theorem MixOf.set_ {X Y zss : List (List Int)} {m : Nat} {done done' : Nat → Nat → Prop} (h : MixOf X Y zss m done) {k j : Nat} {y : Int} (hk : k < X.length) (hj : j < m) (hy : elOf (rowOf Y k) j = y)
    (hd : ∀ a i, a < X.length → i < m → (done' a i ↔ done a i ∨ (a = k ∧ i = j))) : MixOf X Y (zss.set k ((rowOf zss k).set j y)) m done' := by
  have hk' : k < zss.length := by rw [h.len]; exact hk
  refine ⟨by rw [List.length_set]; exact h.len, fun a ha => ?_, fun a i ha hi hdn => ?_, fun a i ha hi hdn => ?_⟩
  · rw [rowOf_set' hk']
    split
    · rw [List.length_set]; exact h.rows k hk
    · exact h.rows a ha
  · rw [rowOf_set' hk']
    by_cases hak : a = k
    · subst hak
      rw [if_pos rfl, elOf_set (by rw [h.rows a ha]; exact hj)]
      by_cases hij : i = j
      · subst hij; rw [if_pos rfl]; exact hy.symm
      · rw [if_neg hij]
        rcases (hd a i ha hi).1 hdn with h1 | h1
        · exact h.yes a i ha hi h1
        · exact absurd h1.2 hij
    · rw [if_neg hak]
      rcases (hd a i ha hi).1 hdn with h1 | h1
      · exact h.yes a i ha hi h1
      · exact absurd h1.1 hak
  · have h0 : ¬ (done a i ∨ (a = k ∧ i = j)) := fun hx => hdn ((hd a i ha hi).2 hx)
    rw [rowOf_set' hk']
    by_cases hak : a = k
    · subst hak
      rw [if_pos rfl, elOf_set (by rw [h.rows a ha]; exact hj), if_neg (fun e => h0 (.inr ⟨rfl, e⟩))]
      exact h.no a i ha hi (fun hx => h0 (.inl hx))
    · rw [if_neg hak]; exact h.no a i ha hi (fun hx => h0 (.inl hx))
theorem MixOf.turn {X Y zss : List (List Int)} {m : Nat} {done done' : Nat → Nat → Prop} (h : MixOf X Y zss m done) (hd : ∀ a i, a < X.length → i < m → (done' a i ↔ done a i) ∨ elOf (rowOf X a) i = elOf (rowOf Y a) i) : MixOf X Y zss m done' :=
  ⟨h.len, h.rows, fun a i ha hi hx => by
    by_cases hdn : done a i
    · exact h.yes a i ha hi hdn
    · rcases hd a i ha hi with h1 | h1
      · exact absurd (h1.1 hx) hdn
      · rw [h.no a i ha hi hdn, h1], fun a i ha hi hx => by
    by_cases hdn : done a i
    · rcases hd a i ha hi with h1 | h1
      · exact absurd (h1.2 hdn) hx
      · rw [h.yes a i ha hi hdn, h1]
    · exact h.no a i ha hi hdn⟩
theorem MixOf.all {X Y zss : List (List Int)} {m : Nat} {done : Nat → Nat → Prop} (h : MixOf X Y zss m done) (hl : Y.length = X.length) (hm : ∀ a, a < X.length → (rowOf Y a).length = m) (hd : ∀ a i, a < X.length → i < m → done a i ∨ elOf (rowOf X a) i = elOf (rowOf Y a) i) : zss = Y := by
  refine ext_rows (h.len.trans hl.symm) fun a ha => ?_
  rw [h.len] at ha
  refine ext_el ((h.rows a ha).trans (hm a ha).symm) fun i hi => ?_
  rw [h.rows a ha] at hi
  by_cases hx : done a i
  · exact h.yes a i ha hi hx
  · rcases hd a i ha hi with h1 | h1
    · exact absurd h1 hx
    · rw [h.no a i ha hi hx, h1]

def facS (sh k n : Int) : Int := if sh = 1 then (k + 1) * (n + 1) else if sh = 2 then (k + 1) * (k + 1) else (n + 1) * (n + 1) - (n - k) * (n - k)
def shB (sh : Int) : Bool := decide (1 ≤ sh) && decide (sh ≤ 3)
def fadeK (up : Bool) (p q : Int) (i : Nat) : Int := if up = true then (i : Int) - p else q - p - 1 - ((i : Int) - p)
def fadeV (sh : Int) (up : Bool) (p q : Int) (xs : List Int) (i : Nat) : Int :=
  if p ≤ (i : Int) ∧ (i : Int) < q then nearI (elOf xs i * facS sh (fadeK up p q i) (q - p)) ((q - p + 1) * (q - p + 1)) else elOf xs i
def fdS (r : Int) (xss : List (List Int)) (p q sh : Int) (up : Bool) : Int × List (List Int) × Int :=
  if chkS r xss ≠ 0 then (0, [], chkS r xss) else if cutF p q (len0 xss) ≠ 0 then (0, [], 1) else if shB sh = false then (0, [], 4) else (r, genS (fadeV sh up p q) (len0 xss) xss, 0)
theorem sq_le {a b : Int} (h0 : 0 ≤ a) (h : a ≤ b) : 0 ≤ a * a ∧ a * a ≤ b * b := ⟨Int.mul_nonneg h0 h0, Int.mul_le_mul h h h0 (by omega)⟩
theorem facS_bd {sh k n : Int} (h0 : 0 ≤ k) (h1 : k < n) (h2 : n ≤ 100000) :
    0 ≤ facS sh k n ∧ facS sh k n ≤ (n + 1) * (n + 1) ∧ (n + 1) * (n + 1) ≤ 10000200001 ∧ 1 ≤ (n + 1) * (n + 1) ∧ 0 ≤ (k + 1) * (n + 1) ∧ (k + 1) * (n + 1) ≤ 10000200001 ∧ 0 ≤ (k + 1) * (k + 1) ∧ (k + 1) * (k + 1) ≤ 10000200001 ∧ 0 ≤ (n - k) * (n - k) ∧ (n - k) * (n - k) ≤ 10000200001 := by
  have a1 := sq_le (a := n + 1) (b := 100001) (by omega) (by omega)
  have a2 := sq_le (a := k + 1) (b := n + 1) (by omega) (by omega)
  have a3 := sq_le (a := n - k) (b := n + 1) (by omega) (by omega)
  have a4 : 0 ≤ (k + 1) * (n + 1) := Int.mul_nonneg (by omega) (by omega)
  have a5 : (k + 1) * (n + 1) ≤ (n + 1) * (n + 1) := Int.mul_le_mul_of_nonneg_right (by omega) (by omega)
  have a6 := sq_le (a := 1) (b := n + 1) (by omega) (by omega)
  unfold facS
  refine ⟨?_, ?_, ?_⟩
  · split
    · exact a4
    · split <;> omega
  · split
    · exact a5
    · split <;> omega
  · omega
/-- what is multiplied by a part of d and divided by d lies between 0 and itself -/
theorem near_part {x f d : Int} (hd : 1 ≤ d) (hf : 0 ≤ f) (hf2 : f ≤ d) : (0 ≤ x → 0 ≤ nearI (x * f) d ∧ nearI (x * f) d ≤ x) ∧ (x < 0 → x ≤ nearI (x * f) d ∧ nearI (x * f) d ≤ 0) := by
  have z : nearI 0 d = 0 := by have := near_self (x := 0) hd; rwa [Int.zero_mul] at this
  refine ⟨fun h => ?_, fun h => ?_⟩
  · have h1 : 0 ≤ x * f := Int.mul_nonneg h hf
    have h2 : x * f ≤ x * d := Int.mul_le_mul_of_nonneg_left hf2 h
    have a1 := nearI_mono (b := d) (by omega) h1
    have a2 := nearI_mono (b := d) (by omega) h2
    rw [near_self hd] at a2
    rw [z] at a1
    exact ⟨a1, a2⟩
  · have h1 : 0 ≤ (-x) * f := Int.mul_nonneg (by omega) hf
    have h2 : (-x) * f ≤ (-x) * d := Int.mul_le_mul_of_nonneg_left hf2 (by omega)
    rw [Int.neg_mul] at h1
    rw [Int.neg_mul, Int.neg_mul] at h2
    have a1 := nearI_mono (b := d) (a := x * f) (c := 0) (by omega) (by omega)
    have a2 := nearI_mono (b := d) (a := x * d) (c := x * f) (by omega) (by omega)
    rw [near_self hd] at a2
    rw [z] at a1
    exact ⟨a2, a1⟩
/-- a product of a sample and a factor -/
theorem fade_bd {x f d : Int} (hx1 : -8388608 ≤ x) (hx2 : x ≤ 8388607) (hf : 0 ≤ f) (hf2 : f ≤ d) (hd : d ≤ 10000200001) : -84000000000000000 ≤ x * f ∧ x * f ≤ 84000000000000000 := by
  have h1 : x * f ≤ 8388608 * f := Int.mul_le_mul_of_nonneg_right (by omega) hf
  have h2 : -8388608 * f ≤ x * f := Int.mul_le_mul_of_nonneg_right (by omega) hf
  omega
theorem fadeK_bd {up : Bool} {p q : Int} {i : Nat} (h1 : p ≤ (i : Int)) (h2 : (i : Int) < q) : 0 ≤ fadeK up p q i ∧ fadeK up p q i < q - p := by
  unfold fadeK; split <;> omega
theorem fadeV_in {sh : Int} {up : Bool} {p q : Int} {xs : List Int} {i : Nat} (h1 : p ≤ (i : Int)) (h2 : (i : Int) < q) : fadeV sh up p q xs i = nearI (elOf xs i * facS sh (fadeK up p q i) (q - p)) ((q - p + 1) * (q - p + 1)) := if_pos ⟨h1, h2⟩
theorem fadeV_out {sh : Int} {up : Bool} {p q : Int} {xs : List Int} {i : Nat} (h : (i : Int) < p ∨ q ≤ (i : Int)) : fadeV sh up p q xs i = elOf xs i := if_neg (by omega)
/-- a fade makes no sample greater -/
theorem fadeV_quiet {sh : Int} {up : Bool} {p q : Int} {xs : List Int} {i : Nat} (hq : q - p ≤ 100000) : (0 ≤ elOf xs i → 0 ≤ fadeV sh up p q xs i ∧ fadeV sh up p q xs i ≤ elOf xs i) ∧ (elOf xs i < 0 → elOf xs i ≤ fadeV sh up p q xs i ∧ fadeV sh up p q xs i ≤ 0) := by
  by_cases h : p ≤ (i : Int) ∧ (i : Int) < q
  · rw [fadeV_in h.1 h.2]
    have hk := fadeK_bd (up := up) h.1 h.2
    have hf := facS_bd (sh := sh) hk.1 hk.2 hq
    exact near_part hf.2.2.2.1 hf.1 hf.2.1
  · rw [fadeV_out (by omega)]; omega
theorem fadeV_smp {sh : Int} {up : Bool} {p q : Int} {xs : List Int} {i : Nat} (hq : q - p ≤ 100000) (h1 : -8388608 ≤ elOf xs i) (h2 : elOf xs i ≤ 8388607) : smpB (fadeV sh up p q xs i) = true := by
  have h := fadeV_quiet (sh := sh) (up := up) (p := p) (q := q) (xs := xs) (i := i) hq
  by_cases h0 : 0 ≤ elOf xs i
  · have := h.1 h0; exact smpB_mk (by omega) (by omega)
  · have := h.2 (by omega); exact smpB_mk (by omega) (by omega)
/-- a fade of the turned sound, the other way -/
theorem fadeV_turn {sh : Int} {up : Bool} {p q : Int} {xs : List Int} {i : Nat} (hi : i < xs.length) : fadeV sh (!up) ((xs.length : Int) - q) ((xs.length : Int) - p) xs.reverse (xs.length - 1 - i) = fadeV sh up p q xs i := by
  have hr : elOf xs.reverse (xs.length - 1 - i) = elOf xs i := by
    rw [elOf_reverse (by omega)]; congr 1; omega
  have hc : ((xs.length - 1 - i : Nat) : Int) = (xs.length : Int) - 1 - i := by omega
  by_cases h : p ≤ (i : Int) ∧ (i : Int) < q
  · rw [fadeV_in h.1 h.2, fadeV_in (by omega) (by omega), hr]
    have hk : fadeK (!up) ((xs.length : Int) - q) ((xs.length : Int) - p) (xs.length - 1 - i) = fadeK up p q i := by
      unfold fadeK
      rw [hc]
      cases up <;> simp <;> omega
    have hn : (xs.length : Int) - p - ((xs.length : Int) - q) = q - p := by omega
    rw [hk, hn]
  · rw [fadeV_out (by omega), fadeV_out (by omega), hr]
theorem genS_OkS {g : List Int → Nat → Int} {r : Int} {xss : List (List Int)} (h : OkS r xss) (hg : ∀ k i, k < xss.length → i < len0 xss → smpB (g (rowOf xss k) i) = true) : OkS r (genS g (len0 xss) xss) ∧ len0 (genS g (len0 xss) xss) = len0 xss := by
  have hl : len0 (genS g (len0 xss) xss) = len0 xss := genS_len h.some
  refine ⟨⟨h.rate, by rw [genS_length]; exact h.some, by rw [genS_length]; exact h.few, by rw [hl]; exact h.long, fun t ht => ?_⟩, hl⟩
  obtain ⟨k, hk, rfl⟩ := List.mem_iff_getElem.1 ht
  rw [genS_length] at hk
  have hrow : (genS g (len0 xss) xss)[k]'(by rw [genS_length]; exact hk) = rowOf (genS g (len0 xss) xss) k := by simp [rowOf, List.getD, genS_length, hk]
  rw [hrow]
  refine ⟨by rw [genS_len hk, hl], ?_⟩
  rw [genS_row hk, List.all_eq_true]
  intro y hy
  obtain ⟨i, hi, rfl⟩ := List.mem_map.1 hy
  exact hg k i hk (List.mem_range.1 hi)
theorem OkS.reversed {r : Int} {xss : List (List Int)} (h : OkS r xss) : OkS r (xss.map List.reverse) ∧ len0 (xss.map List.reverse) = len0 xss := by
  have hl : len0 (xss.map List.reverse) = len0 xss := by
    cases xss with
    | nil => rfl
    | cons t ts => simp [len0]
  refine ⟨⟨h.rate, by simpa using h.some, by simpa using h.few, by rw [hl]; exact h.long, fun t ht => ?_⟩, hl⟩
  obtain ⟨u, hu, rfl⟩ := List.mem_map.1 ht
  have hr := h.rows u hu
  exact ⟨by rw [hl, List.length_reverse]; exact hr.1, by rw [List.all_reverse]; exact hr.2⟩
/-- a fade is turned around with its sound -/
theorem fade_turn {r : Int} {xss : List (List Int)} (h : OkS r xss) {sh : Int} {up : Bool} {p q : Int} : (genS (fadeV sh (!up) ((len0 xss : Int) - q) ((len0 xss : Int) - p)) (len0 xss) (xss.map List.reverse)).map List.reverse = genS (fadeV sh up p q) (len0 xss) xss := by
  refine ext_rows (by simp [genS_length]) fun a ha => ?_
  rw [List.length_map, genS_length, List.length_map] at ha
  have hr := (h.row ha).1
  rw [rev_row (by rw [genS_length, List.length_map]; exact ha)]
  refine ext_el (by rw [List.length_reverse, genS_len (by rw [List.length_map]; exact ha), genS_len ha]) fun i hi => ?_
  rw [List.length_reverse, genS_len (by rw [List.length_map]; exact ha)] at hi
  rw [elOf_reverse (by rw [genS_len (by rw [List.length_map]; exact ha)]; exact hi), genS_len (by rw [List.length_map]; exact ha), genS_el (by rw [List.length_map]; exact ha) (by omega), genS_el ha hi, rev_row ha]
  have := fadeV_turn (sh := sh) (up := up) (p := p) (q := q) (xs := rowOf xss a) (i := i) (by rw [hr]; exact hi)
  rw [hr] at this
  exact this
theorem cutXs_all {xss : List (List Int)} {m : Nat} (h : ∀ a, a < xss.length → (rowOf xss a).length = m) : cutXs 0 (m : Int) xss = xss := by
  unfold cutXs
  refine ext_rows (by simp) fun a ha => ?_
  rw [List.length_map] at ha
  have := h a ha
  have hg : rowOf (xss.map fun x => (x.drop (0 : Int).toNat).take ((m : Int).toNat - (0 : Int).toNat)) a = ((rowOf xss a).drop 0).take m := by
    simp [rowOf, List.getD, ha]
  rw [hg, List.drop_zero, List.take_of_length_le (by omega)]
end Go.Dw
