/- Runs of marks, as spans: the plain law of Silences and Clips. -/
import Derived.Test.YtnhmhjhfoonakaaZc
import Derived.Test.YtnhmhjhfoonakaaSpec
set_option linter.unusedSimpArgs false
set_option linter.unusedVariables false
namespace Go.Proofs.Ytnhmhjhfoonakaa
open Go.Dw
/-- the state after some numbers: where the open run begins, and the runs that are done -/
def rnR (b : Nat → Bool) (least : Int) : Nat → Nat × List Pr
  | 0 => (0, [])
  | i + 1 => if b i = true then rnR b least i else (i + 1, if least ≤ (i : Int) - ((rnR b least i).1 : Int) then (rnR b least i).2 ++ [(((rnR b least i).1 : Int), (i : Int))] else (rnR b least i).2)
def cutQ (b : Nat → Bool) (n : Nat) (i : Nat) : Bool := decide (i < n) && b i
def runsS (b : Nat → Bool) (n : Nat) (least : Int) : List Pr := (rnR (cutQ b n) least (n + 1)).2
theorem rnR_on {b : Nat → Bool} {least : Int} {i : Nat} (h : b i = true) : rnR b least (i + 1) = rnR b least i := by simp [rnR, h]
theorem rnR_off {b : Nat → Bool} {least : Int} {i : Nat} (h : b i = false) : rnR b least (i + 1) = (i + 1, if least ≤ (i : Int) - ((rnR b least i).1 : Int) then (rnR b least i).2 ++ [(((rnR b least i).1 : Int), (i : Int))] else (rnR b least i).2) := by simp [rnR, h]
theorem rnR_congr {b b' : Nat → Bool} {least : Int} : ∀ {n : Nat}, (∀ i, i < n → b i = b' i) → rnR b least n = rnR b' least n
  | 0, _ => rfl
  | n + 1, h => by
    have ih := rnR_congr (least := least) (n := n) (b := b) (b' := b') (fun i hi => h i (by omega))
    simp only [rnR, ih, h n (by omega)]
theorem runsS_congr {b b' : Nat → Bool} {n : Nat} {least : Int} (h : ∀ i, i < n → b i = b' i) : runsS b n least = runsS b' n least := by
  unfold runsS
  rw [rnR_congr (b' := cutQ b' n)]
  intro i _
  unfold cutQ
  by_cases hi : i < n
  · rw [h i hi]
  · simp [hi]
theorem rnR_le (b : Nat → Bool) (least : Int) : ∀ i, (rnR b least i).1 ≤ i
  | 0 => Nat.le_refl _
  | i + 1 => by
    have ih := rnR_le b least i
    cases h : b i with
    | true => rw [rnR_on h]; omega
    | false => rw [rnR_off h]; exact Nat.le_refl _
theorem rnR_open (b : Nat → Bool) (least : Int) : ∀ i j, (rnR b least i).1 ≤ j → j < i → b j = true
  | 0, j, _, h => by omega
  | i + 1, j, h1, h2 => by
    cases h : b i with
    | true =>
      rw [rnR_on h] at h1
      by_cases e : j = i
      · rw [e]; exact h
      · exact rnR_open b least i j h1 (by omega)
    | false => rw [rnR_off h] at h1; dsimp only at h1; omega
theorem rnR_form (b : Nat → Bool) (least : Int) (hl : 1 ≤ least) : ∀ i, Canon (rnR b least i).2 ∧ ∀ e ∈ flatE (rnR b least i).2, 0 ≤ e ∧ e < ((rnR b least i).1 : Int)
  | 0 => ⟨List.Pairwise.nil, fun e he => by cases he⟩
  | i + 1 => by
    obtain ⟨h1, h2⟩ := rnR_form b least hl i
    have h3 := rnR_le b least i
    cases h : b i with
    | true => rw [rnR_on h]; exact ⟨h1, h2⟩
    | false =>
      rw [rnR_off h]
      obtain ⟨⟨f, o⟩, hs⟩ : ∃ s, rnR b least i = s := ⟨_, rfl⟩
      rw [hs] at h1 h2 h3 ⊢
      dsimp only at h1 h2 h3 ⊢
      by_cases hc : least ≤ (i : Int) - (f : Int)
      · rw [if_pos hc]
        refine ⟨?_, fun e he => ?_⟩
        · unfold Canon at *
          rw [flatE_app, flatE_one, List.pairwise_append]
          refine ⟨h1, by simp; omega, fun a ha c hc' => ?_⟩
          have := h2 a ha
          simp at hc'
          omega
        · rw [flatE_app, flatE_one, List.mem_append] at he
          rcases he with he | he
          · have := h2 e he; omega
          · simp at he; omega
      · rw [if_neg hc]
        exact ⟨h1, fun e he => by have := h2 e he; omega⟩
theorem rnR_in (b : Nat → Bool) : ∀ (i : Nat) (z : Int), inS (rnR b 1 i).2 z = true ↔ ∃ j : Nat, z = j ∧ j < (rnR b 1 i).1 ∧ b j = true
  | 0, z => by simp [rnR, inS]
  | i + 1, z => by
    have ih := rnR_in b i z
    have h3 := rnR_le b 1 i
    have h4 := rnR_open b 1 i
    cases h : b i with
    | true => rw [rnR_on h]; exact ih
    | false =>
      rw [rnR_off h]
      obtain ⟨⟨f, o⟩, hs⟩ : ∃ s, rnR b 1 i = s := ⟨_, rfl⟩
      rw [hs] at ih h3 h4 ⊢
      dsimp only at ih h3 h4 ⊢
      have key : (∃ j : Nat, z = j ∧ j < i + 1 ∧ b j = true) ↔ (∃ j : Nat, z = j ∧ j < f ∧ b j = true) ∨ ((f : Int) ≤ z ∧ z < i) := by
        constructor
        · rintro ⟨j, rfl, hj, hb⟩
          by_cases hjf : j < f
          · exact .inl ⟨j, rfl, hjf, hb⟩
          · have hji : j ≠ i := fun e => by rw [e, h] at hb; cases hb
            exact .inr ⟨by omega, by omega⟩
        · rintro (⟨j, rfl, hj, hb⟩ | ⟨h1, h2⟩)
          · exact ⟨j, rfl, by omega, hb⟩
          · exact ⟨z.toNat, by omega, by omega, h4 z.toNat (by omega) (by omega)⟩
      rw [key, ← ih]
      by_cases hc : (1 : Int) ≤ (i : Int) - (f : Int)
      · rw [if_pos hc, inS_app, inS_one]
        simp
      · rw [if_neg hc]
        constructor
        · exact .inl
        · rintro (h' | ⟨h1, h2⟩)
          · exact h'
          · omega
/-- what lies in a span of a run is marked -/
theorem rnR_sub (b : Nat → Bool) (least : Int) (hl : 1 ≤ least) : ∀ (i : Nat) (z : Int), inS (rnR b least i).2 z = true → ∃ j : Nat, z = j ∧ j < (rnR b least i).1 ∧ b j = true
  | 0, z, hz => by simp [rnR, inS] at hz
  | i + 1, z, hz => by
    have h3 := rnR_le b least i
    have h4 := rnR_open b least i
    cases h : b i with
    | true => rw [rnR_on h] at hz ⊢; exact rnR_sub b least hl i z hz
    | false =>
      rw [rnR_off h] at hz ⊢
      dsimp only at hz ⊢
      have back : inS (rnR b least i).2 z = true → ∃ j : Nat, z = j ∧ j < i + 1 ∧ b j = true := fun h' => by
        obtain ⟨j, e, hj, hb⟩ := rnR_sub b least hl i z h'
        exact ⟨j, e, by omega, hb⟩
      by_cases hc : least ≤ (i : Int) - ((rnR b least i).1 : Int)
      · rw [if_pos hc, inS_app, inS_one] at hz
        simp only [Bool.or_eq_true, Bool.and_eq_true, decide_eq_true_eq] at hz
        rcases hz with hz | ⟨h1, h2⟩
        · exact back hz
        · exact ⟨z.toNat, by omega, by omega, h4 z.toNat (by omega) (by omega)⟩
      · rw [if_neg hc] at hz
        exact back hz
theorem cut_end (b : Nat → Bool) (n : Nat) : cutQ b n n = false := by simp [cutQ]
theorem runsS_canon (b : Nat → Bool) (n : Nat) (least : Int) (hl : 1 ≤ least) : Canon (runsS b n least) ∧ ∀ e ∈ flatE (runsS b n least), 0 ≤ e ∧ e ≤ (n : Int) := by
  obtain ⟨h1, h2⟩ := rnR_form (cutQ b n) least hl (n + 1)
  have h3 := rnR_le (cutQ b n) least (n + 1)
  exact ⟨h1, fun e he => by have := h2 e he; omega⟩
theorem runsS_in (b : Nat → Bool) (n : Nat) (z : Int) : inS (runsS b n 1) z = true ↔ ∃ j : Nat, z = j ∧ j < n ∧ b j = true := by
  unfold runsS
  rw [rnR_in, rnR_off (cut_end b n)]
  constructor
  · rintro ⟨j, e, _, h⟩
    simp only [cutQ, Bool.and_eq_true, decide_eq_true_eq] at h
    exact ⟨j, e, h.1, h.2⟩
  · rintro ⟨j, e, h1, h2⟩
    exact ⟨j, e, by dsimp only; omega, by simp [cutQ, h1, h2]⟩
theorem canon_few {l : List Pr} {n : Nat} (hc : Canon l) (h : ∀ e ∈ flatE l, 0 ≤ e ∧ e ≤ (n : Int)) : 2 * l.length ≤ n + 1 := by
  have := inc_len (flatE l) ((List.range (n + 1)).map fun i : Nat => (i : Int)) hc (fun z hz => by
    have := h z hz
    exact List.mem_map.2 ⟨z.toNat, by simp; omega, by omega⟩)
  rw [flatE_len] at this
  simp at this
  omega
theorem runsS_few (b : Nat → Bool) (n : Nat) (least : Int) (hl : 1 ≤ least) : 2 * (runsS b n least).length ≤ n + 1 := canon_few (runsS_canon b n least hl).1 (runsS_canon b n least hl).2
/-- one span behind the others -/
theorem app_in {out : List Pr} {x y : Int} (he : ∀ q ∈ out, q.1 ≤ x) (z : Int) : inS (appS out (x, y)) z = (inS out z || (decide (x ≤ z) && decide (z < y))) := by
  rcases List.eq_nil_or_concat out with rfl | ⟨i, q, rfl⟩
  · rw [appS_nil, inS_one]; simp [inS]
  · rw [List.concat_eq_append] at *
    rw [appS_snoc]
    have hq := he q (by simp)
    by_cases hle : x ≤ q.2
    · rw [if_pos hle, inS_app, inS_one, inS_app, inS_one, Bool.or_assoc]
      congr 1
      rw [Bool.eq_iff_iff]
      simp only [Bool.or_eq_true, Bool.and_eq_true, decide_eq_true_eq]
      omega
    · rw [if_neg hle, inS_app, inS_one]
theorem app_canon {out : List Pr} {x y : Int} (hc : Canon out) (he : ∀ q ∈ out, q.1 ≤ x) (hxy : x < y) : Canon (appS out (x, y)) ∧ (∀ q ∈ appS out (x, y), q.1 ≤ x) ∧ ∀ e ∈ flatE (appS out (x, y)), e ∈ flatE out ∨ e = x ∨ e = y := by
  rcases List.eq_nil_or_concat out with rfl | ⟨i, z, rfl⟩
  · rw [appS_nil]
    refine ⟨?_, ?_, ?_⟩
    · show (flatE [(x, y)]).Pairwise _
      rw [flatE_one]; simp [hxy]
    · intro q hq; simp at hq; subst hq; simp
    · intro e h; rw [flatE_one] at h; simp at h; exact .inr h
  · rw [List.concat_eq_append] at *
    rw [appS_snoc]
    have hzx : z.1 ≤ x := he z (by simp)
    have hci := hc
    unfold Canon at hc
    rw [flatE_app, flatE_one, List.pairwise_append] at hc
    obtain ⟨h1, h2, h3⟩ := hc
    have hz : z.1 < z.2 := by simpa using h2
    by_cases hle : x ≤ z.2
    · rw [if_pos hle]
      refine ⟨?_, ?_, ?_⟩
      · unfold Canon
        rw [flatE_app, flatE_one, List.pairwise_append]
        refine ⟨h1, by simp; omega, fun a ha b hb => ?_⟩
        have q := h3 a ha z.1 (by simp)
        simp at hb
        omega
      · intro q hq
        simp at hq
        rcases hq with hq | rfl
        · exact he q (by simp [hq])
        · exact hzx
      · intro e h
        rw [flatE_app, flatE_one, List.mem_append] at h
        rw [flatE_app, flatE_one, List.mem_append]
        rcases h with h | h
        · exact .inl (.inl h)
        · simp at h
          rcases h with rfl | rfl
          · exact .inl (.inr (by simp))
          · by_cases hm : z.2 ≤ y
            · exact .inr (.inr (by omega))
            · exact .inl (.inr (by rw [show max z.2 y = z.2 by omega]; simp))
    · rw [if_neg hle]
      refine ⟨?_, ?_, ?_⟩
      · unfold Canon
        rw [flatE_app, flatE_one, List.pairwise_append]
        refine ⟨hci, by simp; omega, fun a ha b hb => ?_⟩
        rw [flatE_app, flatE_one, List.mem_append] at ha
        simp at hb
        have h9 : a ≤ z.2 := by
          rcases ha with ha | ha
          · have := h3 a ha z.2 (by simp); omega
          · simp at ha; omega
        omega
      · intro q hq
        rw [List.mem_append] at hq
        rcases hq with hq | hq
        · exact he q hq
        · simp at hq; subst hq; exact Int.le_refl _
      · intro e h
        rw [flatE_app, flatE_one, List.mem_append] at h
        rcases h with h | h
        · exact .inl h
        · simp at h; exact .inr h
/-- the spans of a list, appended in turn -/
def foldA (L : List Pr) (k : Nat) : List Pr := (L.take k).foldl appS []
theorem foldA_step {L : List Pr} {k : Nat} (hk : k < L.length) : foldA L (k + 1) = appS (foldA L k) (prOf L k) := by
  unfold foldA
  rw [take_pr hk, List.foldl_append]
  rfl
theorem foldA_form {L : List Pr} {n : Nat} (hs : L.Pairwise fun p q => p.1 ≤ q.1) (hne : ∀ p ∈ L, 0 ≤ p.1 ∧ p.1 < p.2 ∧ p.2 ≤ (n : Int)) : ∀ k, k ≤ L.length → Canon (foldA L k) ∧ (∀ q ∈ foldA L k, ∃ p ∈ L.take k, q.1 ≤ p.1) ∧ (∀ e ∈ flatE (foldA L k), 0 ≤ e ∧ e ≤ (n : Int)) ∧ ∀ z, inS (foldA L k) z = inS (L.take k) z
  | 0, _ => ⟨List.Pairwise.nil, (fun q hq => by cases hq), (fun e he => by cases he), fun z => rfl⟩
  | k + 1, hk => by
    obtain ⟨h1, h2, h3, h4⟩ := foldA_form hs hne k (by omega)
    have hk' : k < L.length := hk
    rw [foldA_step hk', take_pr hk']
    have hp := hne _ (pr_mem hk')
    have hle : ∀ q ∈ foldA L k, q.1 ≤ (prOf L k).1 := fun q hq => by
      obtain ⟨p, hp, hqp⟩ := h2 q hq
      have h9 : (L.take (k + 1)).Pairwise fun p q => p.1 ≤ q.1 := hs.sublist (List.take_sublist _ _)
      rw [take_pr hk', List.pairwise_append] at h9
      have := h9.2.2 p hp (prOf L k) (by simp)
      omega
    obtain ⟨⟨x, y⟩, hxy⟩ : ∃ p, prOf L k = p := ⟨_, rfl⟩
    rw [hxy] at hp hle ⊢
    obtain ⟨c1, c2, c3⟩ := app_canon h1 hle hp.2.1
    refine ⟨c1, fun q hq => ⟨(x, y), by simp, c2 q hq⟩, fun e he => ?_, fun z => ?_⟩
    · rcases c3 e he with h | rfl | rfl
      · exact h3 e h
      · exact ⟨hp.1, by have := hp.2; omega⟩
      · have := hp.2; have := hp.1; dsimp only at *; exact ⟨by omega, by omega⟩
    · rw [app_in hle, h4, inS_app, inS_one]
theorem foldA_few {L : List Pr} {n k : Nat} (hs : L.Pairwise fun p q => p.1 ≤ q.1) (hne : ∀ p ∈ L, 0 ≤ p.1 ∧ p.1 < p.2 ∧ p.2 ≤ (n : Int)) (hk : k ≤ L.length) : 2 * (foldA L k).length ≤ n + 1 :=
  canon_few (foldA_form hs hne k hk).1 (foldA_form hs hne k hk).2.2.1
/-- spans in order, joined, are the runs of what they cover -/
theorem foldA_runs {L : List Pr} {n : Nat} {b : Nat → Bool} (hs : L.Pairwise fun p q => p.1 ≤ q.1) (hne : ∀ p ∈ L, 0 ≤ p.1 ∧ p.1 < p.2 ∧ p.2 ≤ (n : Int)) (hb : ∀ j, j < n → b j = inS L j) : foldA L L.length = runsS b n 1 := by
  obtain ⟨h1, _, _, h4⟩ := foldA_form hs hne L.length (Nat.le_refl _)
  refine canon_ext _ _ h1 (runsS_canon b n 1 (by omega)).1 fun z => ?_
  rw [h4, List.take_length, Bool.eq_iff_iff, runsS_in]
  constructor
  · intro h
    obtain ⟨p, hp, h5, h6⟩ := inS_iff.1 h
    have := hne p hp
    refine ⟨z.toNat, by omega, by omega, ?_⟩
    rw [hb _ (by omega), show ((z.toNat : Nat) : Int) = z by omega]
    exact h
  · rintro ⟨j, rfl, h5, h6⟩
    rw [← hb j h5]
    exact h6
/-- in what some rows cover, the order of the rows does not count -/
theorem inS_perm {L M : List Pr} (h : L.Perm M) (z : Int) : inS L z = inS M z := by
  rw [Bool.eq_iff_iff, inS_iff, inS_iff]
  constructor
  · rintro ⟨p, hp, h2⟩; exact ⟨p, h.mem_iff.1 hp, h2⟩
  · rintro ⟨p, hp, h2⟩; exact ⟨p, h.mem_iff.2 hp, h2⟩
theorem runsS_ne {b : Nat → Bool} {n : Nat} {least : Int} (hl : 1 ≤ least) : ∀ p ∈ runsS b n least, 0 ≤ p.1 ∧ p.1 < p.2 ∧ p.2 ≤ (n : Int) := fun p hp => by
  obtain ⟨h1, h2⟩ := runsS_canon b n least hl
  have h3 := canon_pair h1 hp
  have h4 := h2 _ (ends_in hp).1
  have h5 := h2 _ (ends_in hp).2
  exact ⟨h4.1, h3, h5.2⟩
/-- the samples that are no louder than a level on each track -/
def quietB (xss : List (List Int)) (level : Int) (i : Nat) : Bool := xss.all fun l => decide (max (elOf l i) (-(elOf l i)) ≤ level)
def endB (l : List Int) (e : Int) (i : Nat) : Bool := decide (elOf l i = e)
/-- the runs at the ends of the range, track by track -/
def endsR (xss : List (List Int)) (run : Int) (es : List Int) : List Pr := xss.flatMap fun l => es.flatMap fun e => runsS (endB l e) l.length run
def fewS (l : List Pr) : List Pr × Int := if 1000 < l.length then ([], 2) else (l, 0)
def sileS (r : Int) (xss : List (List Int)) (level least : Int) : List Pr × Int :=
  if chkS r xss ≠ 0 then ([], chkS r xss) else if level < 0 ∨ 8388608 < level ∨ least < 1 ∨ 100000 < least then ([], 1) else fewS (runsS (quietB xss level) (len0 xss) least)
def markS (xss : List (List Int)) (run : Int) (j : Nat) : Bool := inS (endsR xss run [-8388608, 8388607]) j
def cliS (r : Int) (xss : List (List Int)) (run : Int) : List Pr × Int :=
  if chkS r xss ≠ 0 then ([], chkS r xss) else if run < 1 ∨ 100000 < run then ([], 1) else fewS (runsS (markS xss run) (len0 xss) 1)
theorem endsR_ne {xss : List (List Int)} {run : Int} {es : List Int} {n : Nat} (hl : 1 ≤ run) (hn : ∀ l ∈ xss, l.length = n) : ∀ p ∈ endsR xss run es, 0 ≤ p.1 ∧ p.1 < p.2 ∧ p.2 ≤ (n : Int) := fun p hp => by
  simp only [endsR, List.mem_flatMap] at hp
  obtain ⟨l, h1, e, h2, h3⟩ := hp
  have := runsS_ne hl p h3
  rw [hn l h1] at this
  exact this
theorem endsR_perm (xss : List (List Int)) (run : Int) (d e : Int) : (endsR xss run [d, e]).Perm (endsR xss run [e, d]) := by
  induction xss with
  | nil => exact List.Perm.refl _
  | cons l t ih =>
    have h1 : ∀ es, endsR (l :: t) run es = (es.flatMap fun e => runsS (endB l e) l.length run) ++ endsR t run es := fun es => by simp [endsR]
    rw [h1, h1]
    refine List.Perm.append ?_ ih
    simp only [List.flatMap_cons, List.flatMap_nil, List.append_nil]
    exact List.perm_append_comm
end Go.Proofs.Ytnhmhjhfoonakaa
