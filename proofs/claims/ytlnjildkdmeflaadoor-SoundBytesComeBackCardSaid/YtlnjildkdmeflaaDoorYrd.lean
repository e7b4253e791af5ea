/- Reading a sound: the plain words. -/
import Derived.Test.YtlnjildkdmeflaaDoorYfm
set_option linter.unusedSimpArgs false
set_option linter.unusedVariables false
namespace Go.Proofs.YtlnjildkdmeflaaDoor
open Go.RowKit Go.Dw
/-- bytes as a string -/
def strB (l : By) : ByteArray := ⟨l.toArray⟩
theorem strB_data (l : By) : (strB l).data.toList = l := by simp [strB]
theorem strB_of (s : ByteArray) : strB s.data.toList = s := by cases s; simp [strB]
theorem strB_size (l : By) : (strB l).size = l.length := by rw [← len_dat, strB_data]
/-- what has been read: nothing, a form and notes, all -/
inductive Rd where
  | start
  | mid (r : Int) (T : Nat) (b m : Nat) (l : List Nx)
  | fin (r : Int) (b m : Nat) (xss : List (List Int)) (l : List Nx)
def nAt (d : By) (p q : Nat) : Nat := numB (cutB d p q)
def formG (r : Int) (T b m : Nat) : Bool := rateB r && (decide (1 ≤ T) && (decide (T ≤ 16) && (decide (b = 16 ∨ b = 24) && decide (m ≤ 100000))))
def formOk (d : By) : Bool := decide (d.length = 12) && formG (nAt d 0 4) (nAt d 4 6) (nAt d 6 8) (nAt d 8 12)
/-- a note as its chunk says it -/
def noteR (l : List Nx) (d : By) : Option Nx :=
  if (Lib.cut d [0]).2.2 = false ∨ noteS (Lib.cut d [0]).1 (Lib.cut d [0]).2.1 ≠ 0 ∨ l.length = 50 ∨ isIn l (Lib.cut d [0]).1 = true then none
  else some (strB (Lib.cut d [0]).1, strB (Lib.cut d [0]).2.1)
/-- a sample as its bytes say it -/
def smpV (b n : Nat) : Int := (if 2 ^ (b - 1) ≤ n then (n : Int) - 2 ^ b else (n : Int)) * 2 ^ (24 - b)
def smpR (b T : Nat) (d : By) (i t : Nat) : Int := smpV b (numB (cutB d ((i * T + t) * (b / 8)) ((i * T + t) * (b / 8) + b / 8)))
def fillR (b T m : Nat) (d : By) : List (List Int) := (List.range T).map fun t => (List.range m).map fun i => smpR b T d i t
def stepS : Rd → Ck → Option Rd
  | .start, c => if c.1 = [102, 111, 114, 109] ∧ formOk c.2 = true then some (.mid (nAt c.2 0 4) (nAt c.2 4 6) (nAt c.2 6 8) (nAt c.2 8 12) []) else none
  | .mid r T b m l, c =>
    if c.1 = [110, 111, 116, 101] then (noteR l c.2).map fun x => .mid r T b m (l ++ [x])
    else if c.1 = [100, 97, 116, 97] ∧ c.2.length = b / 8 * T * m then some (.fin r b m (fillR b T m c.2) l) else none
  | .fin .., _ => none
abbrev FbZ := ((Int × List (List Int)) × List Nx) × Int × Int
def fbErr (at_ : Int) (f : Int) : FbZ := (((0, []), []), at_, f)
/-- from a state on -/
def fbR (n : Nat) (ps : List Int) : Nat → Rd → List Ck → FbZ
  | _, .fin r _ _ xss l, [] => (((r, xss), l), 0, 0)
  | _, _, [] => fbErr n 10
  | k, st, c :: t => match stepS st c with
    | none => fbErr (elOf ps k) 10
    | some st' => fbR n ps (k + 1) st' t
def fbS (b : By) : FbZ := if (placedS b).2.2 ≠ 0 then fbErr (placedS b).2.1 (placedS b).2.2 else fbR b.length (placedS b).1.2 0 .start (placedS b).1.1
/-- a state that can be -/
def RdOk : Rd → Prop
  | .start => True
  | .mid r T b m l => formG r T b m = true ∧ l.length ≤ 50 ∧ ∀ x ∈ l, x.1.size ≤ 40 ∧ x.2.size ≤ 200
  | .fin r b m xss l => formG r xss.length b m = true ∧ l.length ≤ 50 ∧ ∀ x ∈ l, x.1.size ≤ 40 ∧ x.2.size ≤ 200
theorem formG_in {r : Int} {T b m : Nat} (h : formG r T b m = true) : rateB r = true ∧ 1 ≤ T ∧ T ≤ 16 ∧ (b = 16 ∨ b = 24) ∧ m ≤ 100000 := by
  simpa [formG] using h
theorem formOk_in {d : By} (h : formOk d = true) : d.length = 12 ∧ formG (nAt d 0 4) (nAt d 4 6) (nAt d 6 8) (nAt d 8 12) = true := by
  simpa [formOk] using h
theorem noteS_in {a b : By} (h : noteS a b = 0) : nameN a = true ∧ textN b = true ∧ a.length ≤ 40 ∧ b.length ≤ 200 := by
  unfold noteS at h
  cases h1 : nameN a with
  | false => rw [h1] at h; simp at h
  | true =>
    cases h2 : textN b with
    | false => rw [h1, h2] at h; simp at h
    | true =>
      rw [h1, h2] at h
      simp at h
      refine ⟨rfl, rfl, ?_, h⟩
      unfold nameN at h1
      simp at h1
      exact h1.1.2
theorem noteR_in {l : List Nx} {d : By} {x : Nx} (h : noteR l d = some x) : (Lib.cut d [0]).2.2 = true ∧ noteX x = 0 ∧ l.length ≠ 50 ∧ isIn l x.1.data.toList = false ∧ x.1.data.toList = (Lib.cut d [0]).1 ∧ x.2.data.toList = (Lib.cut d [0]).2.1 := by
  unfold noteR at h
  split at h
  · cases h
  · rename_i hn
    injection h with h
    subst h
    simp only [not_or, ne_eq, Classical.not_not, Bool.not_eq_false, Bool.not_eq_true] at hn
    unfold noteX
    rw [strB_data, strB_data]
    exact ⟨hn.1, hn.2.1, hn.2.2.1, hn.2.2.2, rfl, rfl⟩
theorem fillR_length (b T m : Nat) (d : By) : (fillR b T m d).length = T := by simp [fillR]
theorem fillR_row {b T m t : Nat} (d : By) (ht : t < T) : rowOf (fillR b T m d) t = (List.range m).map fun i => smpR b T d i t := by
  simp [rowOf, fillR, List.getD, List.getElem?_eq_getElem, ht]
theorem fillR_el {b T m t i : Nat} (d : By) (ht : t < T) (hi : i < m) : elOf (rowOf (fillR b T m d) t) i = smpR b T d i t := by
  rw [fillR_row d ht]
  simp [elOf, List.getD, hi]
theorem stepS_start (c : Ck) : stepS .start c = if c.1 = [102, 111, 114, 109] ∧ formOk c.2 = true then some (.mid (nAt c.2 0 4) (nAt c.2 4 6) (nAt c.2 6 8) (nAt c.2 8 12) []) else none := rfl
theorem stepS_mid (r : Int) (T b m : Nat) (l : List Nx) (c : Ck) : stepS (.mid r T b m l) c = if c.1 = [110, 111, 116, 101] then (noteR l c.2).map fun x => .mid r T b m (l ++ [x])
    else if c.1 = [100, 97, 116, 97] ∧ c.2.length = b / 8 * T * m then some (.fin r b m (fillR b T m c.2) l) else none := rfl
theorem stepS_ok {st st' : Rd} {c : Ck} (h : stepS st c = some st') (ho : RdOk st) : RdOk st' := by
  cases st with
  | start =>
    rw [stepS_start] at h
    by_cases hf : c.1 = [102, 111, 114, 109] ∧ formOk c.2 = true
    · rw [if_pos hf] at h
      injection h with h
      subst h
      exact ⟨(formOk_in hf.2).2, by simp, by simp⟩
    · rw [if_neg hf] at h; cases h
  | mid r T b m l =>
    obtain ⟨h1, h2, h3⟩ := ho
    rw [stepS_mid] at h
    by_cases hf : c.1 = [110, 111, 116, 101]
    · rw [if_pos hf] at h
      cases hn : noteR l c.2 with
      | none => rw [hn] at h; cases h
      | some x =>
        rw [hn] at h
        injection h with h
        subst h
        obtain ⟨_, a1, a2, _⟩ := noteR_in hn
        obtain ⟨_, _, a4, a5⟩ := noteS_in (a := x.1.data.toList) (b := x.2.data.toList) a1
        rw [len_dat] at a4 a5
        refine ⟨h1, by simp; omega, fun y hy => ?_⟩
        rcases List.mem_append.1 hy with hy | hy
        · exact h3 y hy
        · simp at hy; subst hy; exact ⟨a4, a5⟩
    · rw [if_neg hf] at h
      by_cases hd : c.1 = [100, 97, 116, 97] ∧ c.2.length = b / 8 * T * m
      · rw [if_pos hd] at h
        injection h with h
        subst h
        exact ⟨by rw [fillR_length]; exact h1, h2, h3⟩
      · rw [if_neg hd] at h; cases h
  | fin r b m xss l => cases h
theorem smpV_rng {b n : Nat} (hb : b = 16 ∨ b = 24) (hn : n < 2 ^ b) : -8388608 ≤ smpV b n ∧ smpV b n ≤ 8388607 := by
  unfold smpV
  rcases hb with rfl | rfl
  · simp only [Nat.reducePow, Nat.reduceSub] at hn ⊢
    split <;> (constructor <;> omega)
  · simp only [Nat.reducePow, Nat.reduceSub] at hn ⊢
    split <;> (constructor <;> omega)
/-- the reading's box -/
def RdAt (w : World) (N g : Nat) : Rd → Prop
  | .start => N ≤ g ∧ w.heap[g]? = some (.cells #[.int .i64 0, .slice none 0 0, .int .i64 0, .int .i64 0, .slice none 0 0, .bool false] 55 (0, 0))
  | .mid r T b m l => ∃ v u, N ≤ g ∧ w.heap[g]? = some (.cells #[.int .i64 r, v, .int .i64 b, .int .i64 m, u, .bool false] 55 (0, 0)) ∧ OwnRows w N v (zeroS T m) ∧ OwnNts w N u l
  | .fin r b m xss l => ∃ v u, N ≤ g ∧ w.heap[g]? = some (.cells #[.int .i64 r, v, .int .i64 b, .int .i64 m, u, .bool true] 55 (0, 0)) ∧ OwnRows w N v xss ∧ OwnNts w N u l
end Go.Proofs.YtlnjildkdmeflaaDoor
