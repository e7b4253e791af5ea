/- Spans as sets of whole numbers: the plain law of Join, Meet and Without. -/
import Derived.Test.YtnhmhjhfoonakaaZb
import Derived.Test.YtnhmhjhfoonakaaZa
set_option linter.unusedSimpArgs false
set_option linter.unusedVariables false
namespace Go.Proofs.Ytnhmhjhfoonakaa
def inS (l : List Pr) (x : Int) : Bool := l.any fun p => decide (p.1 ≤ x) && decide (x < p.2)
def flatE (l : List Pr) : List Int := l.flatMap fun p => [p.1, p.2]
def Canon (l : List Pr) : Prop := (flatE l).Pairwise (· < ·)
def measS : List Pr → Int
  | [] => 0
  | p :: t => p.2 - p.1 + measS t
theorem measS_app : ∀ (l r : List Pr), measS (l ++ r) = measS l + measS r
  | [], r => by simp [measS]
  | p :: t, r => by
    show p.2 - p.1 + measS (t ++ r) = p.2 - p.1 + measS t + measS r
    rw [measS_app t r]; omega
theorem flatE_app (l r : List Pr) : flatE (l ++ r) = flatE l ++ flatE r := by simp [flatE]
theorem flatE_one (p : Pr) : flatE [p] = [p.1, p.2] := rfl
theorem flatE_cons (p : Pr) (t : List Pr) : flatE (p :: t) = p.1 :: p.2 :: flatE t := rfl
theorem inS_app (l r : List Pr) (x : Int) : inS (l ++ r) x = (inS l x || inS r x) := by simp [inS]
theorem inS_one (p : Pr) (x : Int) : inS [p] x = (decide (p.1 ≤ x) && decide (x < p.2)) := by simp [inS]
theorem inS_cons (p : Pr) (t : List Pr) (x : Int) : inS (p :: t) x = ((decide (p.1 ≤ x) && decide (x < p.2)) || inS t x) := by simp [inS]
theorem flatE_len : ∀ l : List Pr, (flatE l).length = 2 * l.length
  | [] => rfl
  | p :: t => by rw [flatE_cons]; simp only [List.length_cons, flatE_len t]; omega
theorem appS_nil (p : Pr) : appS [] p = [p] := by simp [appS]
theorem appS_snoc (i : List Pr) (z p : Pr) : appS (i ++ [z]) p = if p.1 ≤ z.2 then i ++ [(z.1, max z.2 p.2)] else i ++ [z] ++ [p] := by
  have e : prOf (i ++ [z]) ((i ++ [z]).length - 1) = z := by simp [prOf, List.getD]
  unfold appS
  rw [e]
  by_cases h : p.1 ≤ z.2
  · rw [if_pos ⟨by simp, h⟩, if_pos h]
    simp
  · rw [if_neg (fun a => h a.2), if_neg h]
theorem canon_app {out : List Pr} {x y : Int} (hc : Canon out) (he : ∀ e ∈ flatE out, e ≤ x) (hxy : x < y) :
    Canon (appS out (x, y)) ∧ (∀ e ∈ flatE (appS out (x, y)), e ≤ y) ∧ (∀ e ∈ flatE (appS out (x, y)), e ∈ flatE out ∨ e = x ∨ e = y) ∧ (∀ t, inS (appS out (x, y)) t = (inS out t || (decide (x ≤ t) && decide (t < y)))) ∧ measS (appS out (x, y)) = measS out + (y - x) := by
  rcases List.eq_nil_or_concat out with rfl | ⟨i, z, rfl⟩
  · rw [appS_nil]
    refine ⟨?_, ?_, ?_, ?_, ?_⟩
    · show (flatE [(x, y)]).Pairwise _
      rw [flatE_one]; simp [hxy]
    · intro e h; rw [flatE_one] at h; simp at h; omega
    · intro e h; rw [flatE_one] at h; simp at h; exact .inr h
    · intro t; simp [inS]
    · simp [measS]
  · rw [List.concat_eq_append] at *
    rw [appS_snoc]
    unfold Canon at hc
    rw [flatE_app, flatE_one, List.pairwise_append] at hc
    obtain ⟨h1, h2, h3⟩ := hc
    have hz : z.1 < z.2 := by simpa using h2
    have hzx : z.2 ≤ x := he _ (by rw [flatE_app, flatE_one]; simp)
    by_cases hle : x ≤ z.2
    · have hx : x = z.2 := by omega
      rw [if_pos hle]
      have hm : max z.2 y = y := by omega
      dsimp only
      rw [hm]
      refine ⟨?_, ?_, ?_, ?_, ?_⟩
      · unfold Canon
        rw [flatE_app, flatE_one, List.pairwise_append]
        refine ⟨h1, by simp; omega, fun a ha b hb => ?_⟩
        have q := h3 a ha z.1 (by simp)
        simp at hb
        omega
      · intro e h
        rw [flatE_app, flatE_one] at h
        simp at h
        rcases h with h | h | h
        · have := he e (by rw [flatE_app]; simp [h]); omega
        · omega
        · omega
      · intro e h
        rw [flatE_app, flatE_one] at h
        rw [flatE_app, flatE_one]
        simp at h ⊢
        rcases h with h | h | h
        · exact .inl (.inl h)
        · exact .inl (.inr (.inl h))
        · exact .inr (.inr h)
      · intro t
        rw [inS_app, inS_app, inS_one, inS_one, Bool.or_assoc]
        congr 1
        rw [Bool.eq_iff_iff]
        simp
        omega
      · rw [measS_app, measS_app]
        simp [measS]
        omega
    · rw [if_neg hle]
      refine ⟨?_, ?_, ?_, ?_, ?_⟩
      · unfold Canon
        rw [flatE_app, flatE_app, flatE_one, flatE_one, List.pairwise_append, List.pairwise_append]
        refine ⟨⟨h1, h2, h3⟩, by simp [hxy], fun a ha b hb => ?_⟩
        simp at hb
        have : a ≤ z.2 := by
          simp at ha
          rcases ha with ha | ha | ha
          · have := h3 a ha z.2 (by simp); omega
          · omega
          · omega
        omega
      · intro e h
        rw [flatE_app] at h
        simp at h
        rcases h with h | h
        · have := he e h; omega
        · rw [flatE_one] at h; simp at h; omega
      · intro e h
        rw [flatE_app, flatE_one] at h
        simp at h
        simpa using h
      · intro t
        rw [inS_app, inS_one]
      · rw [measS_app]
        simp [measS]
/-- the spans between ends where f holds -/
def swp (f : Int → Bool) : List Int → List Pr → List Pr
  | x :: y :: t, out => swp f (y :: t) (if f x = true then appS out (x, y) else out)
  | [_], out => out
  | [], out => out
def inW (f : Int → Bool) : List Int → Int → Bool
  | x :: y :: t, z => (f x && (decide (x ≤ z) && decide (z < y))) || inW f (y :: t) z
  | [_], _ => false
  | [], _ => false
def msW (f : Int → Bool) : List Int → Int
  | x :: y :: t => (if f x = true then y - x else 0) + msW f (y :: t)
  | [_] => 0
  | [] => 0
theorem swp_all (f : Int → Bool) : ∀ (E : List Int) (out : List Pr), E.Pairwise (· < ·) → Canon out → (∀ h, E.head? = some h → ∀ e ∈ flatE out, e ≤ h) →
    Canon (swp f E out) ∧ (∀ z, inS (swp f E out) z = (inS out z || inW f E z)) ∧ measS (swp f E out) = measS out + msW f E ∧ (∀ e ∈ flatE (swp f E out), e ∈ flatE out ∨ e ∈ E)
  | [], out, _, hc, _ => ⟨hc, fun z => by simp [swp, inW], by simp [swp, msW], fun e h => .inl h⟩
  | [x], out, _, hc, _ => ⟨hc, fun z => by simp [swp, inW], by simp [swp, msW], fun e h => .inl h⟩
  | x :: y :: t, out, hE, hc, hh => by
    have hx := hh x rfl
    rw [List.pairwise_cons] at hE
    have hxy := hE.1 y (by simp)
    by_cases hf : f x = true
    · obtain ⟨c1, c2, c3, c4, c5⟩ := canon_app hc hx hxy
      obtain ⟨i1, i2, i3, i4⟩ := swp_all f (y :: t) (appS out (x, y)) hE.2 c1 (fun h e => by injection e with e; subst e; exact c2)
      rw [show swp f (x :: y :: t) out = swp f (y :: t) (appS out (x, y)) by show swp f (y :: t) (if f x = true then _ else _) = _; rw [if_pos hf]]
      refine ⟨i1, fun z => ?_, ?_, fun e h => ?_⟩
      · rw [i2, c4]; simp [inW, hf, Bool.or_assoc]
      · rw [i3, c5]; simp [msW, hf]; omega
      · rcases i4 e h with h | h
        · rcases c3 e h with h | h | h
          · exact .inl h
          · exact .inr (by simp [h])
          · exact .inr (by simp [h])
        · exact .inr (List.mem_cons_of_mem _ h)
    · obtain ⟨i1, i2, i3, i4⟩ := swp_all f (y :: t) out hE.2 hc (fun h e => by injection e with e; subst e; intro q hq; have := hx q hq; omega)
      rw [show swp f (x :: y :: t) out = swp f (y :: t) out by show swp f (y :: t) (if f x = true then _ else _) = _; rw [if_neg hf]]
      refine ⟨i1, fun z => ?_, ?_, fun e h => ?_⟩
      · rw [i2]; simp [inW, hf]
      · rw [i3]; simp [msW, hf]
      · rcases i4 e h with h | h
        · exact .inl h
        · exact .inr (List.mem_cons_of_mem _ h)
theorem inW_low (f : Int → Bool) : ∀ (E : List Int) (z : Int), (∀ e ∈ E, z < e) → inW f E z = false
  | [], z, _ => rfl
  | [x], z, _ => rfl
  | x :: y :: t, z, h => by
    have h1 := h x (by simp)
    show (f x && (decide (x ≤ z) && decide (z < y)) || inW f (y :: t) z) = false
    rw [inW_low f (y :: t) z (fun e he => h e (List.mem_cons_of_mem _ he)), decide_eq_false (by omega : ¬ x ≤ z)]; simp
theorem inW_eq (f : Int → Bool) : ∀ (E : List Int), E.Pairwise (· < ·) → (∀ u v, u ∈ E → u ≤ v → (∀ e ∈ E, e ≤ v → e ≤ u) → f v = f u) → (∀ v, (∀ e ∈ E, e ≤ v) → f v = false) → ∀ z, (∃ e ∈ E, e ≤ z) → inW f E z = f z
  | [], _, _, _, z, h => by obtain ⟨e, h, _⟩ := h; cases h
  | [x], _, _, hf, z, h => by
    obtain ⟨e, h, h2⟩ := h
    simp at h; subst h
    rw [hf z (by simpa using h2)]; rfl
  | x :: y :: t, hE, hu, hf, z, h => by
    rw [List.pairwise_cons] at hE
    have hxy := hE.1 y (by simp)
    have hx : x ≤ z := by
      obtain ⟨e, h, h2⟩ := h
      rw [List.mem_cons] at h
      rcases h with rfl | h
      · exact h2
      · have := hE.1 e h; omega
    show (f x && (decide (x ≤ z) && decide (z < y)) || inW f (y :: t) z) = f z
    by_cases hy : z < y
    · rw [inW_low f (y :: t) z (fun e he => ?_), decide_eq_true hx, decide_eq_true hy]
      · rw [hu x z (by simp) hx (fun e he hez => ?_)]; simp
        rw [List.mem_cons] at he
        rcases he with rfl | he
        · omega
        · rw [List.mem_cons] at he
          rcases he with rfl | he
          · omega
          · have := (List.pairwise_cons.1 hE.2).1 e he; omega
      · rw [List.mem_cons] at he
        rcases he with rfl | he
        · exact hy
        · have := (List.pairwise_cons.1 hE.2).1 e he; omega
    · rw [decide_eq_false hy]
      simp only [Bool.and_false, Bool.false_or]
      refine inW_eq f (y :: t) hE.2 (fun u v hu1 huv hh => ?_) (fun v hv => ?_) z ⟨y, by simp, by omega⟩
      · refine hu u v (List.mem_cons_of_mem _ hu1) huv (fun e he hev => ?_)
        rw [List.mem_cons] at he
        rcases he with rfl | he
        · have := hE.1 u hu1; omega
        · exact hh e he hev
      · refine hf v (fun e he => ?_)
        rw [List.mem_cons] at he
        rcases he with rfl | he
        · have := hv y (by simp); omega
        · exact hv e he
/-- a number into a list that increases -/
def insI (x : Int) : List Int → List Int
  | [] => [x]
  | y :: t => if x < y then x :: y :: t else if x = y then y :: t else y :: insI x t
theorem insI_mem (x : Int) : ∀ (l : List Int) (z : Int), z ∈ insI x l ↔ z = x ∨ z ∈ l
  | [], z => by simp [insI]
  | y :: t, z => by
    unfold insI
    split
    · simp
    · split
      · simp; intro h; left; omega
      · simp [insI_mem x t z]
        constructor
        · rintro (h | h | h)
          · exact .inr (.inl h)
          · exact .inl h
          · exact .inr (.inr h)
        · rintro (h | h | h)
          · exact .inr (.inl h)
          · exact .inl h
          · exact .inr (.inr h)
theorem insI_lt (x : Int) : ∀ (l : List Int), l.Pairwise (· < ·) → (insI x l).Pairwise (· < ·)
  | [], _ => by simp [insI]
  | y :: t, h => by
    unfold insI
    have h' := List.pairwise_cons.1 h
    split
    · rename_i hx
      refine List.pairwise_cons.2 ⟨fun e he => ?_, h⟩
      rw [List.mem_cons] at he
      rcases he with rfl | he
      · exact hx
      · have := h'.1 e he; omega
    · split
      · exact h
      · refine List.pairwise_cons.2 ⟨fun e he => ?_, insI_lt x t h'.2⟩
        rcases (insI_mem x t e).1 he with rfl | he
        · omega
        · exact h'.1 e he
/-- the ends of spans, increasing, each once -/
def endsL (l : List Int) : List Int := l.foldr insI []
theorem endsL_mem : ∀ (l : List Int) (z : Int), z ∈ endsL l ↔ z ∈ l
  | [], z => by simp [endsL]
  | x :: t, z => by
    show z ∈ insI x (endsL t) ↔ _
    rw [insI_mem, endsL_mem t z]; simp
theorem endsL_lt : ∀ (l : List Int), (endsL l).Pairwise (· < ·)
  | [] => List.Pairwise.nil
  | x :: t => insI_lt x _ (endsL_lt t)
theorem inc_ext : ∀ (l r : List Int), l.Pairwise (· < ·) → r.Pairwise (· < ·) → (∀ z, z ∈ l ↔ z ∈ r) → l = r
  | [], [], _, _, _ => rfl
  | [], y :: r, _, _, h => by have := (h y).2 (by simp); cases this
  | x :: l, [], _, _, h => by have := (h x).1 (by simp); cases this
  | x :: l, y :: r, hl, hr, h => by
    have h1 := List.pairwise_cons.1 hl
    have h2 := List.pairwise_cons.1 hr
    have hxy : x = y := by
      have a := (h x).1 (by simp)
      have b := (h y).2 (by simp)
      rw [List.mem_cons] at a b
      rcases a with a | a
      · exact a
      · rcases b with b | b
        · exact b.symm
        · have := h2.1 x a; have := h1.1 y b; omega
    subst hxy
    congr 1
    refine inc_ext l r h1.2 h2.2 (fun z => ?_)
    constructor
    · intro hz
      have := (h z).1 (List.mem_cons_of_mem _ hz)
      rw [List.mem_cons] at this
      rcases this with rfl | this
      · have := h1.1 z hz; omega
      · exact this
    · intro hz
      have := (h z).2 (List.mem_cons_of_mem _ hz)
      rw [List.mem_cons] at this
      rcases this with rfl | this
      · have := h2.1 z hz; omega
      · exact this
def endsS (a b : List Pr) : List Int := endsL (flatE a ++ flatE b)
/-- what is chosen by whether it is in a, and in b -/
def sweepS (keep : Bool → Bool → Bool) (a b : List Pr) : List Pr := swp (fun x => keep (inS a x) (inS b x)) (endsS a b) []
theorem ends_in {l : List Pr} {p : Pr} (h : p ∈ l) : p.1 ∈ flatE l ∧ p.2 ∈ flatE l := by
  constructor <;> (unfold flatE; rw [List.mem_flatMap]; exact ⟨p, h, by simp⟩)
theorem inS_same {l : List Pr} {E : List Int} {u v : Int} (hE : ∀ e ∈ flatE l, e ∈ E) (huv : u ≤ v) (h : ∀ e ∈ E, e ≤ v → e ≤ u) : inS l v = inS l u := by
  rw [Bool.eq_iff_iff]
  unfold inS
  simp only [List.any_eq_true, Bool.and_eq_true, decide_eq_true_eq]
  constructor
  · rintro ⟨p, hp, h1, h2⟩
    obtain ⟨m1, m2⟩ := ends_in hp
    exact ⟨p, hp, h _ (hE _ m1) h1, by omega⟩
  · rintro ⟨p, hp, h1, h2⟩
    obtain ⟨m1, m2⟩ := ends_in hp
    refine ⟨p, hp, by omega, ?_⟩
    by_cases q : p.2 ≤ v
    · have := h _ (hE _ m2) q; omega
    · omega
theorem inS_high {l : List Pr} {E : List Int} {v : Int} (hE : ∀ e ∈ flatE l, e ∈ E) (h : ∀ e ∈ E, e ≤ v) : inS l v = false := by
  rw [Bool.eq_false_iff]
  unfold inS
  simp only [ne_eq, List.any_eq_true, Bool.and_eq_true, decide_eq_true_eq]
  rintro ⟨p, hp, h1, h2⟩
  have := h _ (hE _ (ends_in hp).2); omega
theorem inS_low {l : List Pr} {E : List Int} {v : Int} (hE : ∀ e ∈ flatE l, e ∈ E) (h : ∀ e ∈ E, v < e) : inS l v = false := by
  rw [Bool.eq_false_iff]
  unfold inS
  simp only [ne_eq, List.any_eq_true, Bool.and_eq_true, decide_eq_true_eq]
  rintro ⟨p, hp, h1, h2⟩
  have := h _ (hE _ (ends_in hp).1); omega
theorem ends_a {a b : List Pr} : ∀ e ∈ flatE a, e ∈ endsS a b := fun e h => (endsL_mem _ e).2 (List.mem_append_left _ h)
theorem ends_b {a b : List Pr} : ∀ e ∈ flatE b, e ∈ endsS a b := fun e h => (endsL_mem _ e).2 (List.mem_append_right _ h)
theorem sweep_law (keep : Bool → Bool → Bool) (hk : keep false false = false) (a b : List Pr) :
    Canon (sweepS keep a b) ∧ (∀ z, inS (sweepS keep a b) z = keep (inS a z) (inS b z)) ∧ measS (sweepS keep a b) = msW (fun x => keep (inS a x) (inS b x)) (endsS a b) ∧ (∀ e ∈ flatE (sweepS keep a b), e ∈ endsS a b) := by
  obtain ⟨h1, h2, h3, h4⟩ := swp_all (fun x => keep (inS a x) (inS b x)) (endsS a b) [] (endsL_lt _) List.Pairwise.nil (fun h _ e he => by cases he)
  refine ⟨h1, fun z => ?_, by rw [show measS (sweepS keep a b) = _ from h3]; simp [measS], fun e he => ?_⟩
  · show inS (swp _ _ _) z = _
    rw [h2]
    show (false || _) = _
    rw [Bool.false_or]
    by_cases hz : ∃ e ∈ endsS a b, e ≤ z
    · refine inW_eq _ _ (endsL_lt _) (fun u v _ huv hh => ?_) (fun v hv => ?_) z hz
      · rw [inS_same ends_a huv hh, inS_same ends_b huv hh]
      · rw [inS_high ends_a hv, inS_high ends_b hv, hk]
    · have hlow : ∀ e ∈ endsS a b, z < e := fun e he => by
        by_cases q : z < e
        · exact q
        · exact absurd ⟨e, he, by omega⟩ hz
      rw [inW_low _ _ _ hlow, inS_low ends_a hlow, inS_low ends_b hlow, hk]
  · rcases h4 e he with h | h
    · cases h
    · exact h
theorem canon_head {p : Pr} {t : List Pr} (h : Canon (p :: t)) : p.1 < p.2 ∧ (∀ q ∈ t, p.2 < q.1 ∧ p.2 < q.2) ∧ Canon t := by
  unfold Canon at h
  rw [flatE_cons, List.pairwise_cons, List.pairwise_cons] at h
  exact ⟨h.1 _ (by simp), fun q hq => ⟨h.2.1 _ (ends_in hq).1, h.2.1 _ (ends_in hq).2⟩, h.2.2⟩
theorem canon_pair : ∀ {l : List Pr} {q : Pr}, Canon l → q ∈ l → q.1 < q.2
  | p :: t, q, h, hq => by
    obtain ⟨h1, _, h3⟩ := canon_head h
    rw [List.mem_cons] at hq
    rcases hq with rfl | hq
    · exact h1
    · exact canon_pair h3 hq
theorem inS_iff {l : List Pr} {x : Int} : inS l x = true ↔ ∃ p ∈ l, p.1 ≤ x ∧ x < p.2 := by
  unfold inS
  simp only [List.any_eq_true, Bool.and_eq_true, decide_eq_true_eq]
theorem first_le {p q : Pr} {t r : List Pr} (h2 : Canon (q :: r)) (hp : p.1 < p.2) (h : inS (p :: t) p.1 = inS (q :: r) p.1) : q.1 ≤ p.1 := by
  have : inS (p :: t) p.1 = true := inS_iff.2 ⟨p, by simp, by omega, hp⟩
  rw [this] at h
  obtain ⟨z, hz, h3, h4⟩ := inS_iff.1 h.symm
  rw [List.mem_cons] at hz
  rcases hz with rfl | hz
  · exact h3
  · have := (canon_head h2).1; have := (canon_head h2).2.1 z hz; omega
theorem first_end {p q : Pr} {t r : List Pr} (h1 : Canon (p :: t)) (he : p.1 = q.1) (h : inS (p :: t) p.2 = inS (q :: r) p.2) : q.2 ≤ p.2 := by
  by_cases hh : q.2 ≤ p.2
  · exact hh
  · have : inS (q :: r) p.2 = true := inS_iff.2 ⟨q, by simp, by have := (canon_head h1).1; omega, by omega⟩
    rw [this] at h
    obtain ⟨z, hz, h3, h4⟩ := inS_iff.1 h
    rw [List.mem_cons] at hz
    rcases hz with rfl | hz
    · omega
    · have := (canon_head h1).2.1 z hz; omega
theorem canon_ext : ∀ (l r : List Pr), Canon l → Canon r → (∀ z, inS l z = inS r z) → l = r
  | [], [], _, _, _ => rfl
  | [], q :: r, _, h2, h => by
    have := h q.1
    rw [(inS_iff (l := q :: r)).2 ⟨q, by simp, by omega, (canon_head h2).1⟩] at this
    cases this
  | p :: l, [], h1, _, h => by
    have := h p.1
    rw [(inS_iff (l := p :: l)).2 ⟨p, by simp, by omega, (canon_head h1).1⟩] at this
    cases this
  | p :: l, q :: r, h1, h2, h => by
    obtain ⟨a1, a2, a3⟩ := canon_head h1
    obtain ⟨b1, b2, b3⟩ := canon_head h2
    have e1 : p.1 = q.1 := by
      have := first_le h2 a1 (h p.1)
      have := first_le h1 b1 (h q.1).symm
      omega
    have e2 : p.2 = q.2 := by
      have := first_end h1 e1 (h p.2)
      have := first_end h2 e1.symm (h q.2).symm
      omega
    obtain rfl : p = q := Prod.ext e1 e2
    congr 1
    refine canon_ext l r a3 b3 (fun z => ?_)
    have hz := h z
    rw [inS_cons, inS_cons] at hz
    by_cases hp : p.1 ≤ z ∧ z < p.2
    · have f1 : inS l z = false := by
        rw [Bool.eq_false_iff]; intro hh
        obtain ⟨s, hs, h3, h4⟩ := inS_iff.1 hh
        have := a2 s hs; omega
      have f2 : inS r z = false := by
        rw [Bool.eq_false_iff]; intro hh
        obtain ⟨s, hs, h3, h4⟩ := inS_iff.1 hh
        have := b2 s hs; omega
      rw [f1, f2]
    · have : (decide (p.1 ≤ z) && decide (z < p.2)) = false := by
        rw [Bool.eq_false_iff]; simpa using hp
      rw [this] at hz
      simpa using hz
theorem inc_len : ∀ (l r : List Int), l.Pairwise (· < ·) → (∀ z ∈ l, z ∈ r) → l.length ≤ r.length
  | [], r, _, _ => by simp
  | x :: l, r, h, hs => by
    have h1 := List.pairwise_cons.1 h
    have hx := hs x (by simp)
    have := inc_len l (r.erase x) h1.2 (fun z hz => by
      have hne : z ≠ x := by have := h1.1 z hz; omega
      exact (List.mem_erase_of_ne hne).2 (hs z (List.mem_cons_of_mem _ hz)))
    rw [List.length_erase_of_mem hx] at this
    have : 0 < r.length := List.length_pos_of_mem hx
    simp; omega
theorem sweep_len (keep : Bool → Bool → Bool) (hk : keep false false = false) (a b : List Pr) : (sweepS keep a b).length ≤ a.length + b.length := by
  obtain ⟨h1, _, _, h4⟩ := sweep_law keep hk a b
  have := inc_len _ (flatE a ++ flatE b) h1 (fun z hz => (endsL_mem _ z).1 (h4 z hz))
  rw [List.length_append, flatE_len, flatE_len, flatE_len] at this
  omega
theorem sweep_left {a : List Pr} (b : List Pr) (ha : Canon a) : sweepS (fun x _ => x) a b = a :=
  canon_ext _ _ (sweep_law _ rfl a b).1 ha (fun z => (sweep_law _ rfl a b).2.1 z)
theorem sweep_right (a : List Pr) {b : List Pr} (hb : Canon b) : sweepS (fun _ y => y) a b = b :=
  canon_ext _ _ (sweep_law _ rfl a b).1 hb (fun z => (sweep_law _ rfl a b).2.1 z)
theorem msW_sum (f g h k : Int → Bool) (hb : ∀ x, (if f x = true then (1 : Nat) else 0) + (if g x = true then 1 else 0) = (if h x = true then 1 else 0) + (if k x = true then 1 else 0)) : ∀ E : List Int, msW f E + msW g E = msW h E + msW k E
  | [] => rfl
  | [_] => rfl
  | x :: y :: t => by
    have ih := msW_sum f g h k hb (y :: t)
    have := hb x
    simp only [msW]
    cases hf : f x <;> cases hg : g x <;> cases hh : h x <;> cases hkk : k x <;> simp [hf, hg, hh, hkk] at this ⊢ <;> omega
theorem meas_both {a b : List Pr} (ha : Canon a) (hb : Canon b) : measS (sweepS (fun x y => x || y) a b) + measS (sweepS (fun x y => x && y) a b) = measS a + measS b := by
  have e1 := (sweep_law (fun x y => x || y) rfl a b).2.2.1
  have e2 := (sweep_law (fun x y => x && y) rfl a b).2.2.1
  have e3 := (sweep_law (fun x _ => x) rfl a b).2.2.1
  have e4 := (sweep_law (fun _ y => y) rfl a b).2.2.1
  rw [sweep_left b ha] at e3
  rw [sweep_right a hb] at e4
  rw [e1, e2, e3, e4]
  exact msW_sum _ _ _ _ (fun x => by cases inS a x <;> cases inS b x <;> rfl) _
theorem sweep_back {a b : List Pr} (ha : Canon a) : sweepS (fun x y => x || y) (sweepS (fun x y => x && !y) a b) (sweepS (fun x y => x && y) a b) = a := by
  refine canon_ext _ _ (sweep_law _ rfl _ _).1 ha (fun z => ?_)
  rw [(sweep_law _ rfl _ _).2.1, (sweep_law _ rfl _ _).2.1, (sweep_law _ rfl _ _).2.1]
  cases inS a z <;> cases inS b z <;> rfl
theorem canon_none : ∀ {l : List Pr}, Canon l → (∀ z, inS l z = false) → l = []
  | [], _, _ => rfl
  | p :: t, h, hz => by
    have := hz p.1
    rw [inS_iff.2 ⟨p, by simp, by omega, (canon_head h).1⟩] at this
    cases this
theorem sweep_none (a b : List Pr) : sweepS (fun x y => x && y) (sweepS (fun x y => x && !y) a b) b = [] := by
  refine canon_none (sweep_law _ rfl _ _).1 (fun z => ?_)
  rw [(sweep_law _ rfl _ _).2.1, (sweep_law _ rfl _ _).2.1]
  cases inS a z <;> cases inS b z <;> rfl
theorem rowG_of {o : List Pr → Nat → Bool} {l : List Pr} : ∀ {d k : Nat}, (∀ j, k ≤ j → j < k + d → okPr (prOf l j) = true ∧ o l j = false) → rowG o l d k = 0
  | 0, k, _ => rfl
  | d + 1, k, h => by
    unfold rowG
    obtain ⟨a, b⟩ := h k (Nat.le_refl _) (by omega)
    rw [if_neg (by rw [a]; simp), if_neg (by rw [b]; simp)]
    exact rowG_of (fun j h1 h2 => h j (by omega) (by omega))
theorem pr_cons_succ (p : Pr) (t : List Pr) (k : Nat) : prOf (p :: t) (k + 1) = prOf t k := by simp [prOf]
theorem pr_cons_zero (p : Pr) (t : List Pr) : prOf (p :: t) 0 = p := by simp [prOf]
theorem canon_low {x : Int} : ∀ {l : List Pr}, Canon l → (∀ p t, l = p :: t → x < p.1) → ∀ e ∈ flatE l, x < e
  | [], _, _, e, h => by cases h
  | p :: t, hc, hx, e, h => by
    have h1 := hx p t rfl
    unfold Canon at hc
    rw [flatE_cons] at h hc
    rw [List.mem_cons] at h
    rcases h with rfl | h
    · exact h1
    · have := (List.pairwise_cons.1 hc).1 e h; omega
theorem canon_of_each : ∀ {l : List Pr}, (∀ k, k < l.length → (prOf l k).1 < (prOf l k).2) → (∀ k, k + 1 < l.length → (prOf l k).2 < (prOf l (k + 1)).1) → Canon l
  | [], _, _ => List.Pairwise.nil
  | p :: t, h1, h2 => by
    have ih : Canon t := canon_of_each (fun k hk => by have := h1 (k + 1) (by simp; omega); rwa [pr_cons_succ] at this) (fun k hk => by have := h2 (k + 1) (by simp; omega); rwa [pr_cons_succ, pr_cons_succ] at this)
    have hp := h1 0 (by simp)
    rw [pr_cons_zero] at hp
    have hlow : ∀ e ∈ flatE t, p.2 < e := canon_low ih (fun q r e => by
      subst e
      have := h2 0 (by simp)
      rwa [pr_cons_zero, pr_cons_succ, pr_cons_zero] at this)
    unfold Canon
    rw [flatE_cons, List.pairwise_cons, List.pairwise_cons]
    refine ⟨fun e he => ?_, hlow, ih⟩
    rw [List.mem_cons] at he
    rcases he with rfl | he
    · exact hp
    · have := hlow e he; omega
theorem canon_next : ∀ {l : List Pr} {k : Nat}, Canon l → k + 1 < l.length → (prOf l k).2 < (prOf l (k + 1)).1
  | [], k, _, h => by simp at h
  | p :: t, 0, hc, h => by
    rw [pr_cons_zero, pr_cons_succ]
    refine ((canon_head hc).2.1 (prOf t 0) ?_).1
    match t, h with
    | q :: r, _ => rw [pr_cons_zero]; simp
  | p :: t, k + 1, hc, h => by
    rw [pr_cons_succ, pr_cons_succ]
    exact canon_next (canon_head hc).2.2 (by simpa using h)
theorem pr_in {l : List Pr} {k : Nat} (hk : k < l.length) : prOf l k ∈ l := pr_mem hk
theorem chkSp_canon {l : List Pr} (h : chkSp l = 0) : Canon l ∧ l.length ≤ 1000 ∧ ∀ p ∈ l, okPr p = true := by
  unfold chkSp at h
  by_cases h1 : 1000 < l.length
  · rw [if_pos h1] at h; exact absurd h (by decide)
  · rw [if_neg h1] at h
    have hz := rowG_zero h
    refine ⟨canon_of_each (fun k hk => ?_) (fun k hk => ?_), by omega, fun p hp => ?_⟩
    · have := (hz k (by omega) (by omega)).2
      unfold ordSp at this
      simp at this
      exact this.1
    · have := (hz (k + 1) (by omega) (by omega)).2
      unfold ordSp at this
      simp at this
      exact this.2
    · obtain ⟨k, hk, rfl⟩ := List.getElem_of_mem hp
      have := (hz k (by omega) (by omega)).1
      simpa [prOf, List.getD, List.getElem?_eq_getElem hk] using this
theorem canon_chkSp {l : List Pr} (hc : Canon l) (hn : l.length ≤ 1000) (hp : ∀ p ∈ l, okPr p = true) : chkSp l = 0 := by
  unfold chkSp
  rw [if_neg (by omega)]
  refine rowG_of (fun j _ hj => ⟨hp _ (pr_in (by omega)), ?_⟩)
  unfold ordSp
  have h1 := canon_pair hc (pr_in (l := l) (k := j) (by omega))
  rw [Bool.or_eq_false_iff]
  refine ⟨by simpa using h1, ?_⟩
  rcases Nat.eq_zero_or_pos j with rfl | h0
  · rfl
  · obtain ⟨i, rfl⟩ : ∃ i, j = i + 1 := ⟨j - 1, by omega⟩
    have := canon_next hc (k := i) (by omega)
    simp only [Nat.add_sub_cancel]
    simp
    omega
theorem ends_ok {l : List Pr} (h : ∀ p ∈ l, okPr p = true) : ∀ e ∈ flatE l, okPos e = true := by
  intro e he
  unfold flatE at he
  rw [List.mem_flatMap] at he
  obtain ⟨p, hp, he⟩ := he
  have := h p hp
  unfold okPr at this
  rw [Bool.and_eq_true] at this
  simp at he
  rcases he with rfl | rfl
  · exact this.1
  · exact this.2
theorem ok_ends {l : List Pr} (h : ∀ e ∈ flatE l, okPos e = true) : ∀ p ∈ l, okPr p = true := fun p hp => by
  unfold okPr
  rw [h _ (ends_in hp).1, h _ (ends_in hp).2]; rfl
theorem sweep_ok {keep : Bool → Bool → Bool} (hk : keep false false = false) {a b : List Pr} (ha : chkSp a = 0) (hb : chkSp b = 0) : ∀ p ∈ sweepS keep a b, okPr p = true := by
  refine ok_ends (fun e he => ?_)
  have := (sweep_law keep hk a b).2.2.2 e he
  have := (endsL_mem _ e).1 this
  rw [List.mem_append] at this
  rcases this with h | h
  · exact ends_ok (chkSp_canon ha).2.2 e h
  · exact ends_ok (chkSp_canon hb).2.2 e h
theorem sweep_chk {keep : Bool → Bool → Bool} (hk : keep false false = false) {a b : List Pr} (ha : chkSp a = 0) (hb : chkSp b = 0) (hn : (sweepS keep a b).length ≤ 1000) : chkSp (sweepS keep a b) = 0 :=
  canon_chkSp (sweep_law keep hk a b).1 hn (sweep_ok hk ha hb)
/-- Join, Meet and Without -/
def setS (keep : Bool → Bool → Bool) (a b : List Pr) : List Pr × Int := if chkSp a ≠ 0 then ([], chkSp a) else if chkSp b ≠ 0 then ([], chkSp b) else if 1000 < (sweepS keep a b).length then ([], 2) else (sweepS keep a b, 0)
/-- Length -/
def lenS (l : List Pr) : Int × Int := if chkSp l ≠ 0 then (0, chkSp l) else (measS l, 0)
/-- whether a sample is in, by the first span that ends behind it -/
theorem in_at {l : List Pr} {i : Nat} {x : Int} (hc : Canon l) (hi : i ≤ l.length) (h1 : ∀ j, j < i → (prOf l j).2 ≤ x) (h2 : i < l.length → x < (prOf l i).2) : inS l x = (decide (i < l.length) && decide ((prOf l i).1 ≤ x)) := by
  rw [Bool.eq_iff_iff, inS_iff]
  simp only [Bool.and_eq_true, decide_eq_true_eq]
  constructor
  · rintro ⟨p, hp, a, b⟩
    obtain ⟨k, hk, rfl⟩ := List.getElem_of_mem hp
    have e : l[k] = prOf l k := by simp [prOf, List.getD, List.getElem?_eq_getElem hk]
    rw [e] at a b
    have hik : i ≤ k := by
      by_cases q : i ≤ k
      · exact q
      · have := h1 k (by omega); omega
    refine ⟨by omega, ?_⟩
    have mono : ∀ d, i + d < l.length → (prOf l i).1 ≤ (prOf l (i + d)).1 := by
      intro d
      induction d with
      | zero => intro _; simp
      | succ d ih =>
        intro h
        have := ih (by omega)
        have := canon_next hc (k := i + d) (by omega)
        have := canon_pair hc (pr_in (l := l) (k := i + d) (by omega))
        rw [show i + (d + 1) = i + d + 1 by omega]
        omega
    have := mono (k - i) (by omega)
    rw [show i + (k - i) = k by omega] at this
    omega
  · rintro ⟨a, b⟩
    exact ⟨prOf l i, pr_in a, b, h2 a⟩
theorem law_sets {a b all some rest : List Pr} (h1 : setS (fun x y => x || y) a b = (all, 0)) (h2 : setS (fun x y => x && y) a b = (some, 0)) (h3 : setS (fun x y => x && !y) a b = (rest, 0)) :
    (lenS all).1 + (lenS some).1 = (lenS a).1 + (lenS b).1 ∧ setS (fun x y => x || y) rest some = (a, 0) ∧ setS (fun x y => x && y) rest b = ([], 0) := by
  have key : ∀ {keep : Bool → Bool → Bool} {r : List Pr}, setS keep a b = (r, 0) → chkSp a = 0 ∧ chkSp b = 0 ∧ (sweepS keep a b).length ≤ 1000 ∧ r = sweepS keep a b := by
    intro keep r h
    unfold setS at h
    by_cases q1 : chkSp a = 0
    · by_cases q2 : chkSp b = 0
      · rw [if_neg (by simp [q1]), if_neg (by simp [q2])] at h
        by_cases q3 : 1000 < (sweepS keep a b).length
        · rw [if_pos q3] at h; injection h with _ h; exact absurd h (by decide)
        · rw [if_neg q3] at h; injection h with h _; exact ⟨q1, q2, by omega, h.symm⟩
      · rw [if_neg (by simp [q1]), if_pos q2] at h; injection h with _ h; exact absurd h q2
    · rw [if_pos q1] at h; injection h with _ h; exact absurd h q1
  obtain ⟨qa, qb, l1, e1⟩ := key h1
  obtain ⟨_, _, l2, e2⟩ := key h2
  obtain ⟨_, _, l3, e3⟩ := key h3
  obtain ⟨ca, na, pa⟩ := chkSp_canon qa
  obtain ⟨cb, nb, pb⟩ := chkSp_canon qb
  have c1 : chkSp all = 0 := by rw [e1]; exact sweep_chk rfl qa qb l1
  have c2 : chkSp some = 0 := by rw [e2]; exact sweep_chk rfl qa qb l2
  have c3 : chkSp rest = 0 := by rw [e3]; exact sweep_chk rfl qa qb l3
  refine ⟨?_, ?_, ?_⟩
  · unfold lenS
    rw [if_neg (by simp [c1]), if_neg (by simp [c2]), if_neg (by simp [qa]), if_neg (by simp [qb]), e1, e2]
    exact meas_both ca cb
  · unfold setS
    rw [if_neg (by simp [c3]), if_neg (by simp [c2]), e2, e3, sweep_back ca, if_neg (by omega)]
  · unfold setS
    rw [if_neg (by simp [c3]), if_neg (by simp [qb]), e3, sweep_none, if_neg (by simp)]
theorem sets_few {keep : Bool → Bool → Bool} (hk : keep false false = false) {a b : List Pr} (h : (setS keep a b).2 ≠ 0) : chkSp a ≠ 0 ∨ chkSp b ≠ 0 ∨ 1000 < a.length + b.length := by
  by_cases q1 : chkSp a = 0
  · by_cases q2 : chkSp b = 0
    · unfold setS at h
      rw [if_neg (by simp [q1]), if_neg (by simp [q2])] at h
      by_cases q3 : 1000 < (sweepS keep a b).length
      · have := sweep_len keep hk a b
        exact .inr (.inr (by omega))
      · rw [if_neg q3] at h; exact absurd rfl h
    · exact .inr (.inl q2)
  · exact .inl q1
end Go.Proofs.Ytnhmhjhfoonakaa

/- The ends of spans, merged and swept: the plain law. -/
set_option linter.unusedSimpArgs false
set_option linter.unusedVariables false
namespace Go.Proofs.Ytnhmhjhfoonakaa
def intAt (l : List Int) (k : Nat) : Int := l.getD k 0
theorem int_drop {l : List Int} {k : Nat} (hk : k < l.length) : l.drop k = intAt l k :: l.drop (k + 1) := by
  rw [List.drop_eq_getElem_cons hk]; simp [intAt, List.getD, List.getElem?_eq_getElem hk]
theorem int_take {l : List Int} {k : Nat} (hk : k < l.length) : l.take (k + 1) = l.take k ++ [intAt l k] := by
  rw [List.take_succ_eq_append_getElem hk]; simp [intAt, List.getD, List.getElem?_eq_getElem hk]
theorem int_mem {l : List Int} {k : Nat} (hk : k < l.length) : intAt l k ∈ l := by
  simp [intAt, List.getD, List.getElem?_eq_getElem hk]
theorem int_lt {l : List Int} (h : l.Pairwise (· < ·)) {j k : Nat} (hj : j < k) (hk : k < l.length) : intAt l j < intAt l k := by
  have := List.pairwise_iff_getElem.1 h j k (by omega) hk hj
  simpa [intAt, List.getD, List.getElem?_eq_getElem hk, List.getElem?_eq_getElem (show j < l.length by omega)] using this
theorem flat_take : ∀ (l : List Pr) (k : Nat), flatE (l.take k) = (flatE l).take (2 * k)
  | [], k => by simp [flatE]
  | p :: t, 0 => by simp [flatE]
  | p :: t, k + 1 => by
    rw [List.take_succ_cons, flatE_cons, flatE_cons, flat_take t k, show 2 * (k + 1) = (2 * k) + 1 + 1 by omega, List.take_succ_cons, List.take_succ_cons]
theorem flat_even : ∀ {l : List Pr} {k : Nat}, k < l.length → intAt (flatE l) (2 * k) = (prOf l k).1
  | p :: t, 0, _ => by simp [flatE_cons, intAt, prOf]
  | p :: t, k + 1, h => by
    have := flat_even (l := t) (k := k) (by simpa using h)
    rw [pr_cons_succ, ← this, flatE_cons, show 2 * (k + 1) = 2 * k + 1 + 1 by omega]
    simp [intAt]
theorem flat_odd : ∀ {l : List Pr} {k : Nat}, k < l.length → intAt (flatE l) (2 * k + 1) = (prOf l k).2
  | p :: t, 0, _ => by simp [flatE_cons, intAt, prOf]
  | p :: t, k + 1, h => by
    have := flat_odd (l := t) (k := k) (by simpa using h)
    rw [pr_cons_succ, ← this, flatE_cons, show 2 * (k + 1) + 1 = 2 * k + 1 + 1 + 1 by omega]
    simp [intAt]
/-- the ends that were merged so far -/
structure Mrg (x y : List Int) (i k : Nat) (acc : List Int) : Prop where
  inc : acc.Pairwise (· < ·)
  mem : ∀ z, z ∈ acc ↔ z ∈ x.take i ∨ z ∈ y.take k
  low1 : ∀ e ∈ acc, ∀ f ∈ x.drop i, e ≤ f
  low2 : ∀ e ∈ acc, ∀ f ∈ y.drop k, e ≤ f
theorem Mrg.start (x y : List Int) : Mrg x y 0 0 [] := ⟨List.Pairwise.nil, fun z => by simp, (fun e h => by cases h), (fun e h => by cases h)⟩
theorem Mrg.symm {x y : List Int} {i k : Nat} {acc : List Int} (h : Mrg x y i k acc) : Mrg y x k i acc := ⟨h.inc, fun z => by rw [h.mem z, Or.comm], h.low2, h.low1⟩
theorem Mrg.len {x y : List Int} {i k : Nat} {acc : List Int} (h : Mrg x y i k acc) (hi : i ≤ x.length) (hk : k ≤ y.length) : acc.length ≤ i + k := by
  have := inc_len acc (x.take i ++ y.take k) h.inc (fun z hz => by rw [List.mem_append]; exact (h.mem z).1 hz)
  rw [List.length_append, List.length_take, List.length_take] at this
  omega
/-- the next end is new -/
theorem Mrg.push {x y : List Int} {i k : Nat} {acc : List Int} (h : Mrg x y i k acc) (hx : x.Pairwise (· < ·)) (hy : y.Pairwise (· < ·)) (hi : i < x.length) (hn : ∀ f ∈ y.drop k, intAt x i ≤ f) (hl : ∀ m, acc.length = m + 1 → intAt acc m ≠ intAt x i) : Mrg x y (i + 1) k (acc ++ [intAt x i]) := by
  have hd := int_drop hi
  have hlt : ∀ f ∈ x.drop (i + 1), intAt x i < f := by
    have := List.Pairwise.sublist (List.drop_sublist i x) hx
    rw [hd, List.pairwise_cons] at this
    exact this.1
  have hle : ∀ e ∈ acc, e ≤ intAt x i := fun e he => h.low1 e he _ (by rw [hd]; simp)
  have hne : ∀ e ∈ acc, e < intAt x i := fun e he => by
    rcases List.eq_nil_or_concat acc with rfl | ⟨s, z, rfl⟩
    · cases he
    · have hz := hl s.length (by simp)
      have hzz : intAt (s.concat z) s.length = z := by simp [intAt, List.getD]
      rw [hzz] at hz
      have hzle := hle z (by simp)
      have hin := h.inc
      rw [List.concat_eq_append] at he hin
      rw [List.pairwise_append] at hin
      rw [List.mem_append] at he
      rcases he with he | he
      · have := hin.2.2 e he z (by simp); omega
      · simp at he; subst he; omega
  refine ⟨?_, fun z => ?_, ?_, ?_⟩
  · rw [List.pairwise_append]
    exact ⟨h.inc, by simp, fun e he b hb => by simp at hb; subst hb; exact hne e he⟩
  · rw [List.mem_append, h.mem z, int_take hi, List.mem_append]
    constructor
    · rintro ((a | a) | a)
      · exact .inl (.inl a)
      · exact .inr a
      · exact .inl (.inr a)
    · rintro ((a | a) | a)
      · exact .inl (.inl a)
      · exact .inr a
      · exact .inl (.inr a)
  · intro e he f hf
    rw [List.mem_append] at he
    have := hlt f hf
    rcases he with he | he
    · have := hle e he; omega
    · simp at he; subst he; omega
  · intro e he f hf
    rw [List.mem_append] at he
    rcases he with he | he
    · exact h.low2 e he f hf
    · simp at he; subst he; exact hn f hf
/-- the next end is there -/
theorem Mrg.skip {x y : List Int} {i k m : Nat} {acc : List Int} (h : Mrg x y i k acc) (hi : i < x.length) (hm : acc.length = m + 1) (hl : intAt acc m = intAt x i) : Mrg x y (i + 1) k acc := by
  have hd := int_drop hi
  refine ⟨h.inc, fun z => ?_, fun e he f hf => h.low1 e he f (by rw [hd]; exact List.mem_cons_of_mem _ hf), h.low2⟩
  rw [h.mem z, int_take hi, List.mem_append]
  constructor
  · rintro (a | a)
    · exact .inl (.inl a)
    · exact .inr a
  · rintro ((a | a) | a)
    · exact .inl a
    · simp at a
      exact (h.mem z).1 (by rw [a, ← hl]; exact int_mem (by omega))
    · exact .inr a
theorem Mrg.done {a b : List Pr} {i k : Nat} {acc : List Int} (h : Mrg (flatE a) (flatE b) i k acc) (hi : (flatE a).length ≤ i) (hk : (flatE b).length ≤ k) : acc = endsS a b := by
  refine inc_ext _ _ h.inc (endsL_lt _) (fun z => ?_)
  rw [h.mem z, List.take_of_length_le hi, List.take_of_length_le hk]
  show _ ↔ z ∈ endsL _
  rw [endsL_mem, List.mem_append]
theorem inc_drop_ge {x : List Int} (hx : x.Pairwise (· < ·)) {k : Nat} (hk : k < x.length) : ∀ f ∈ x.drop k, intAt x k ≤ f := by
  intro f hf
  rw [int_drop hk, List.mem_cons] at hf
  rcases hf with rfl | hf
  · omega
  · have := List.Pairwise.sublist (List.drop_sublist k x) hx
    rw [int_drop hk, List.pairwise_cons] at this
    have := this.1 f hf; omega
theorem canon_flat {l : List Pr} (h : Canon l) : (flatE l).Pairwise (· < ·) := h
/-- one step of the sweep -/
theorem swp_step (f : Int → Bool) {E : List Int} {k : Nat} {acc : List Pr} (hk : k + 1 < E.length) : swp f (E.drop k) acc = swp f (E.drop (k + 1)) (if f (intAt E k) = true then appS acc (intAt E k, intAt E (k + 1)) else acc) := by
  rw [int_drop (show k < E.length by omega), int_drop hk]
  rfl
theorem swp_end (f : Int → Bool) {E : List Int} {k : Nat} {acc : List Pr} (hk : E.length ≤ k + 1) : swp f (E.drop k) acc = acc := by
  match h : E.drop k with
  | [] => rfl
  | [_] => rfl
  | _ :: _ :: _ =>
    have := congrArg List.length h
    simp at this
    omega
/-- what was swept so far lies below the next end -/
theorem app_low {acc : List Pr} {x y : Int} (he : ∀ e ∈ flatE acc, e ≤ x) (hxy : x < y) : ∀ e ∈ flatE (appS acc (x, y)), e ≤ y := by
  intro e h
  rcases List.eq_nil_or_concat acc with rfl | ⟨i, z, rfl⟩
  · rw [appS_nil, flatE_one] at h
    simp at h; omega
  · rw [List.concat_eq_append] at *
    rw [appS_snoc] at h
    have hz1 : z.1 ≤ x := he _ (by rw [flatE_app, flatE_one]; simp)
    have hz2 : z.2 ≤ x := he _ (by rw [flatE_app, flatE_one]; simp)
    have hi : ∀ e ∈ flatE i, e ≤ x := fun e h => he e (by rw [flatE_app]; exact List.mem_append_left _ h)
    split at h
    · rw [flatE_app, flatE_one, List.mem_append] at h
      rcases h with h | h
      · have := hi e h; omega
      · simp at h; omega
    · rw [flatE_app, flatE_app, flatE_one, flatE_one, List.mem_append, List.mem_append] at h
      rcases h with (h | h) | h
      · have := hi e h; omega
      · simp at h; omega
      · simp at h; omega
theorem appS_touch {acc : List Pr} {m : Nat} {x y z1 : Int} (hl : acc.length = m + 1) (hz : prOf acc m = (z1, x)) (hxy : x < y) : appS acc (x, y) = acc.set m ((prOf acc m).1, y) := by
  rw [appS_set hl hz (by omega)]
  rw [show max x y = y by omega]
theorem last_low {acc : List Pr} {m : Nat} {x z1 z2 : Int} (hl : acc.length = m + 1) (hz : prOf acc m = (z1, z2)) (he : ∀ e ∈ flatE acc, e ≤ x) : z2 ≤ x := by
  have := he _ (ends_in (pr_in (l := acc) (k := m) (by omega))).2
  rw [hz] at this
  exact this
theorem ends_len (a b : List Pr) : (endsS a b).length ≤ 2 * (a.length + b.length) := by
  have := inc_len (endsS a b) (flatE a ++ flatE b) (endsL_lt _) (fun z hz => (endsL_mem _ z).1 hz)
  rw [List.length_append, flatE_len, flatE_len] at this
  omega
theorem meas_snoc {l : List Pr} {k : Nat} (hk : k < l.length) : measS (l.take (k + 1)) = measS (l.take k) + ((prOf l k).2 - (prOf l k).1) := by
  rw [List.take_succ_eq_append_getElem hk, measS_app]
  have e : l[k] = prOf l k := by simp [prOf, List.getD, List.getElem?_eq_getElem hk]
  rw [e]; simp [measS]
theorem meas_bd {l : List Pr} (h : ∀ p ∈ l, okPr p = true) : ∀ k : Nat, k ≤ l.length → -(20000000000000 * (k : Int)) ≤ measS (l.take k) ∧ measS (l.take k) ≤ 20000000000000 * k
  | 0, _ => by simp [measS]
  | k + 1, hk => by
    have ih := meas_bd h k (by omega)
    rw [meas_snoc (by omega)]
    have := h _ (pr_in (l := l) (k := k) (by omega))
    unfold okPr at this
    rw [Bool.and_eq_true] at this
    have a := okPos_le this.1
    have b := okPos_le this.2
    omega
end Go.Proofs.Ytnhmhjhfoonakaa

/- Rows of whole numbers of the call's own. -/
set_option linter.unusedSimpArgs false
set_option linter.unusedVariables false
namespace Go.Proofs.Ytnhmhjhfoonakaa
open Go.RowKit Go.Dw
theorem one_int_info : (Try.prog.info? 3).map (fun i => (i.zero, i.size, i.bytes)) = some (some (.int .i64 0), 1, 8) := by kernel_rfl
/-- a row of whole numbers of the call's own -/
def OwnI (w : World) (base : Nat) (v : Value) (l : List Int) : Prop := w.ownsRow base 3 1 v l.length (l.map (Value.int .i64))
theorem OwnI.below {w w' : World} {base : Nat} {v : Value} {l : List Int} (h : OwnI w base v l) (hb : Below w.heap.size w w') : OwnI w' base v l := own_below h hb
theorem OwnI.nil (w : World) (base : Nat) : OwnI w base (.slice none 0 0) [] := World.ownsRow_nil _ _ _ _
theorem OwnI.len {w : World} {base : Nat} {v : Value} {l : List Int} (h : OwnI w base v l) : ∃ A c, v = .slice A l.length c ∧ l.length ≤ c ∧ c ≤ maxLen := own_form h
theorem OwnI.slot {w : World} {base : Nat} {v : Value} {l : List Int} (h : OwnI w base v l) (h0 : 0 < l.length) : ∃ g cap, v = .slice (some ⟨g, 0, none⟩) l.length cap ∧ base ≤ g ∧ g < w.heap.size ∧ l.length ≤ cap ∧ cap ≤ maxLen ∧
    ∀ k, k < l.length → w.cell? ⟨g, k, none⟩ = some (.int .i64 (intAt l k)) ∧ w.frozen? ⟨g, k, none⟩ = false := by
  have hh : w.ownsRow base 3 1 v l.length (l.map (Value.int .i64)) := h
  rcases hh.2 with ⟨_, h1⟩ | ⟨g, cap, cur, rfl, hb, hhp, h1, h2, _⟩
  · omega
  · refine ⟨g, cap, rfl, hb, (Array.getElem?_eq_some_iff.1 hhp).1, h1, h2, fun k hk => ⟨?_, hh.frozenAt _⟩⟩
    rw [hh.cellAt k (by simpa using hk)]
    simp [intAt, List.getD, List.getElem?_eq_getElem hk]
theorem wpList_push_one {ops : Array Oper} {rest : List Oper} {o : Oper} {a : Act} {Q : Exit → Act → World → Prop} {w0 : World} (hgd : o.guard = none) (s x : Operand)
    (ho : o.op = .call { callee := .builtin .append, args := #[s, x], argTypes := #[54, 54] }) (base : Nat) (A : Option Addr) (n c : Nat) (l : List Int) (u : Int) (g0 : Nat) (hg0 : w0.heap.size = g0)
    (hs : a.eval s = .slice A n c) (hx : a.eval x = .slice (some ⟨g0, 0, none⟩) 1 1) (hown : OwnI w0 base (.slice A n c) l) (hn : n ≤ 5864062014634) (hb : base ≤ w0.heap.size)
    (h : ∀ g cap w', OwnI w' base (.slice (some ⟨g, 0, none⟩) (n + 1) cap) (l ++ [u]) → Below base w0 w' → wpList Try.prog ops Q rest (a.put o.dst (.slice (some ⟨g, 0, none⟩) (n + 1) cap)) w') :
    wpList Try.prog ops Q (o :: rest) a (w0.alloc (.cells #[.int .i64 u] 3)) := by
  obtain ⟨i1, e0, e1, e2, e3⟩ := info_parts one_int_info
  subst hg0
  have hn' : n = l.length := by
    obtain ⟨A', c', e, _, _⟩ := own_form hown
    injection e
  subst hn'
  refine wpList_append_lies _ hgd s x 54 ho base 3 i1 _ 1 8 Try.underlying54 e0 e1 e2 e3 rfl (by omega) (.slice A l.length c) l.length (l.map (Value.int .i64)) hs (World.ownsRow.alloc hown _) ⟨w0.heap.size, 0, none⟩ 1 1 [.int .i64 u] hx rfl (fun j v hj => ?_) (by intro z hz; simp at hz; subst hz; rfl) (by omega) (by simp only [maxLen]; omega) (by omega) (by simp; omega) _ rfl ?_
  · rw [show (⟨w0.heap.size, 0, none⟩ : Addr).add j = ⟨w0.heap.size, j, none⟩ by unfold Addr.add; split <;> simp_all, World.cell?_alloc_new]
    simpa using hj
  · intro g cap w' h1 h2 _ _
    refine h g cap w' ?_ ((((Below.refl base w0).alloc hb _).grown h2 (by simp; omega) (fun b e => (own_lt hown e).1)))
    unfold OwnI
    rw [List.length_append, List.map_append]
    exact h1
theorem wpList_push_two {ops : Array Oper} {rest : List Oper} {o : Oper} {a : Act} {Q : Exit → Act → World → Prop} {w0 : World} (hgd : o.guard = none) (s x : Operand)
    (ho : o.op = .call { callee := .builtin .append, args := #[s, x], argTypes := #[54, 54] }) (base : Nat) (A : Option Addr) (n c : Nat) (l : List Int) (u v : Int) (g0 : Nat) (hg0 : w0.heap.size = g0)
    (hs : a.eval s = .slice A n c) (hx : a.eval x = .slice (some ⟨g0, 0, none⟩) 2 2) (hown : OwnI w0 base (.slice A n c) l) (hn : n ≤ 5864062014634) (hb : base ≤ w0.heap.size)
    (h : ∀ g cap w', OwnI w' base (.slice (some ⟨g, 0, none⟩) (n + 2) cap) (l ++ [u, v]) → Below base w0 w' → wpList Try.prog ops Q rest (a.put o.dst (.slice (some ⟨g, 0, none⟩) (n + 2) cap)) w') :
    wpList Try.prog ops Q (o :: rest) a (w0.alloc (.cells #[.int .i64 u, .int .i64 v] 3)) := by
  obtain ⟨i1, e0, e1, e2, e3⟩ := info_parts one_int_info
  subst hg0
  have hn' : n = l.length := by
    obtain ⟨A', c', e, _, _⟩ := own_form hown
    injection e
  subst hn'
  refine wpList_append_lies _ hgd s x 54 ho base 3 i1 _ 1 8 Try.underlying54 e0 e1 e2 e3 rfl (by omega) (.slice A l.length c) l.length (l.map (Value.int .i64)) hs (World.ownsRow.alloc hown _) ⟨w0.heap.size, 0, none⟩ 2 2 [.int .i64 u, .int .i64 v] hx rfl (fun j v hj => ?_) (by intro z hz; simp at hz; rcases hz with rfl | rfl <;> rfl) (by omega) (by simp only [maxLen]; omega) (by omega) (by simp; omega) _ rfl ?_
  · rw [show (⟨w0.heap.size, 0, none⟩ : Addr).add j = ⟨w0.heap.size, j, none⟩ by unfold Addr.add; split <;> simp_all, World.cell?_alloc_new]
    simpa using hj
  · intro g cap w' h1 h2 _ _
    refine h g cap w' ?_ ((((Below.refl base w0).alloc hb _).grown h2 (by simp; omega) (fun b e => (own_lt hown e).1)))
    unfold OwnI
    rw [List.length_append, List.map_append]
    exact h1
/-- whether a sample is in spans -/
theorem inS_none {l : List Pr} {k : Nat} {x : Int} (hk : k < l.length) (h : inS (l.take k) x = false) (hp : ¬ ((prOf l k).1 ≤ x ∧ x < (prOf l k).2)) : inS (l.take (k + 1)) x = false := by
  rw [take_pr hk, inS_app, h, inS_one, Bool.false_or, Bool.eq_false_iff]
  simpa using hp
end Go.Proofs.Ytnhmhjhfoonakaa
