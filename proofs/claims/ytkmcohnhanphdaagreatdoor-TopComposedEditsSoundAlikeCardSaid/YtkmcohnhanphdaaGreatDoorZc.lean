/- Spans as sets of whole numbers: the plain law of Join, Meet and Without. -/
import Derived.Test.YtkmcohnhanphdaaGreatDoorZb
import Derived.Test.YtkmcohnhanphdaaGreatDoorZa
set_option linter.unusedSimpArgs false
set_option linter.unusedVariables false
namespace Go.Proofs.YtkmcohnhanphdaaGreatDoor
def insI (x : Int) : List Int → List Int
  | [] => [x]
  | y :: t => if x < y then x :: y :: t else if x = y then y :: t else y :: insI x t
theorem insI_mem (x : Int) : ∀ (l : List Int) (z : Int), z ∈ insI x l ↔ z = x ∨ z ∈ l
  | [], z => by simp [insI]
  | y :: t, z => by
    unfold insI
    split
    · simp
    · split
      · simp; intro h; left; omega
      · simp [insI_mem x t z]
        constructor
        · rintro (h | h | h)
          · exact .inr (.inl h)
          · exact .inl h
          · exact .inr (.inr h)
        · rintro (h | h | h)
          · exact .inr (.inl h)
          · exact .inl h
          · exact .inr (.inr h)
theorem insI_lt (x : Int) : ∀ (l : List Int), l.Pairwise (· < ·) → (insI x l).Pairwise (· < ·)
  | [], _ => by simp [insI]
  | y :: t, h => by
    unfold insI
    have h' := List.pairwise_cons.1 h
    split
    · rename_i hx
      refine List.pairwise_cons.2 ⟨fun e he => ?_, h⟩
      rw [List.mem_cons] at he
      rcases he with rfl | he
      · exact hx
      · have := h'.1 e he; omega
    · split
      · exact h
      · refine List.pairwise_cons.2 ⟨fun e he => ?_, insI_lt x t h'.2⟩
        rcases (insI_mem x t e).1 he with rfl | he
        · omega
        · exact h'.1 e he
def endsL (l : List Int) : List Int := l.foldr insI []
theorem endsL_mem : ∀ (l : List Int) (z : Int), z ∈ endsL l ↔ z ∈ l
  | [], z => by simp [endsL]
  | x :: t, z => by
    show z ∈ insI x (endsL t) ↔ _
    rw [insI_mem, endsL_mem t z]; simp
theorem endsL_lt : ∀ (l : List Int), (endsL l).Pairwise (· < ·)
  | [] => List.Pairwise.nil
  | x :: t => insI_lt x _ (endsL_lt t)
theorem inc_ext : ∀ (l r : List Int), l.Pairwise (· < ·) → r.Pairwise (· < ·) → (∀ z, z ∈ l ↔ z ∈ r) → l = r
  | [], [], _, _, _ => rfl
  | [], y :: r, _, _, h => by have := (h y).2 (by simp); cases this
  | x :: l, [], _, _, h => by have := (h x).1 (by simp); cases this
  | x :: l, y :: r, hl, hr, h => by
    have h1 := List.pairwise_cons.1 hl
    have h2 := List.pairwise_cons.1 hr
    have hxy : x = y := by
      have a := (h x).1 (by simp)
      have b := (h y).2 (by simp)
      rw [List.mem_cons] at a b
      rcases a with a | a
      · exact a
      · rcases b with b | b
        · exact b.symm
        · have := h2.1 x a; have := h1.1 y b; omega
    subst hxy
    congr 1
    refine inc_ext l r h1.2 h2.2 (fun z => ?_)
    constructor
    · intro hz
      have := (h z).1 (List.mem_cons_of_mem _ hz)
      rw [List.mem_cons] at this
      rcases this with rfl | this
      · have := h1.1 z hz; omega
      · exact this
    · intro hz
      have := (h z).2 (List.mem_cons_of_mem _ hz)
      rw [List.mem_cons] at this
      rcases this with rfl | this
      · have := h2.1 z hz; omega
      · exact this
end Go.Proofs.YtkmcohnhanphdaaGreatDoor
/- The ends of spans, merged and swept: the plain law. -/
namespace Go.Proofs.YtkmcohnhanphdaaGreatDoor
def intAt (l : List Int) (k : Nat) : Int := l.getD k 0
end Go.Proofs.YtkmcohnhanphdaaGreatDoor
/- Rows of whole numbers of the call's own. -/
namespace Go.Proofs.YtkmcohnhanphdaaGreatDoor
open Go.RowKit Go.Dw
theorem one_int_info : (Tryz.prog.info? 3).map (fun i => (i.zero, i.size, i.bytes)) = some (some (.int .i64 0), 1, 8) := by kernel_rfl
def OwnI (w : World) (base : Nat) (v : Value) (l : List Int) : Prop := w.ownsRow base 3 1 v l.length (l.map (Value.int .i64))
theorem OwnI.below {w w' : World} {base : Nat} {v : Value} {l : List Int} (h : OwnI w base v l) (hb : Below w.heap.size w w') : OwnI w' base v l := own_below h hb
theorem OwnI.nil (w : World) (base : Nat) : OwnI w base (.slice none 0 0) [] := World.ownsRow_nil _ _ _ _
theorem OwnI.len {w : World} {base : Nat} {v : Value} {l : List Int} (h : OwnI w base v l) : ∃ A c, v = .slice A l.length c ∧ l.length ≤ c ∧ c ≤ maxLen := own_form h
theorem OwnI.slot {w : World} {base : Nat} {v : Value} {l : List Int} (h : OwnI w base v l) (h0 : 0 < l.length) : ∃ g cap, v = .slice (some ⟨g, 0, none⟩) l.length cap ∧ base ≤ g ∧ g < w.heap.size ∧ l.length ≤ cap ∧ cap ≤ maxLen ∧
    ∀ k, k < l.length → w.cell? ⟨g, k, none⟩ = some (.int .i64 (intAt l k)) ∧ w.frozen? ⟨g, k, none⟩ = false := by
  have hh : w.ownsRow base 3 1 v l.length (l.map (Value.int .i64)) := h
  rcases hh.2 with ⟨_, h1⟩ | ⟨g, cap, cur, rfl, hb, hhp, h1, h2, _⟩
  · omega
  · refine ⟨g, cap, rfl, hb, (Array.getElem?_eq_some_iff.1 hhp).1, h1, h2, fun k hk => ⟨?_, hh.frozenAt _⟩⟩
    rw [hh.cellAt k (by simpa using hk)]
    simp [intAt, List.getD, List.getElem?_eq_getElem hk]
theorem wpList_push_one {ops : Array Oper} {rest : List Oper} {o : Oper} {a : Act} {Q : Exit → Act → World → Prop} {w0 : World} (hgd : o.guard = none) (s x : Operand)
    (ho : o.op = .call { callee := .builtin .append, args := #[s, x], argTypes := #[42, 42] }) (base : Nat) (A : Option Addr) (n c : Nat) (l : List Int) (u : Int) (g0 : Nat) (hg0 : w0.heap.size = g0)
    (hs : a.eval s = .slice A n c) (hx : a.eval x = .slice (some ⟨g0, 0, none⟩) 1 1) (hown : OwnI w0 base (.slice A n c) l) (hn : n ≤ 5864062014634) (hb : base ≤ w0.heap.size)
    (h : ∀ g cap w', OwnI w' base (.slice (some ⟨g, 0, none⟩) (n + 1) cap) (l ++ [u]) → Below base w0 w' → wpList Tryz.prog ops Q rest (a.put o.dst (.slice (some ⟨g, 0, none⟩) (n + 1) cap)) w') :
    wpList Tryz.prog ops Q (o :: rest) a (w0.alloc (.cells #[.int .i64 u] 3)) := by
  obtain ⟨i1, e0, e1, e2, e3⟩ := info_parts one_int_info
  subst hg0
  have hn' : n = l.length := by
    obtain ⟨A', c', e, _, _⟩ := own_form hown
    injection e
  subst hn'
  refine wpList_append_lies _ hgd s x 42 ho base 3 i1 _ 1 8 Tryz.underlying42 e0 e1 e2 e3 rfl (by omega) (.slice A l.length c) l.length (l.map (Value.int .i64)) hs (World.ownsRow.alloc hown _) ⟨w0.heap.size, 0, none⟩ 1 1 [.int .i64 u] hx rfl (fun j v hj => ?_) (by intro z hz; simp at hz; subst hz; rfl) (by omega) (by simp only [maxLen]; omega) (by omega) (by simp; omega) _ rfl ?_
  · rw [show (⟨w0.heap.size, 0, none⟩ : Addr).add j = ⟨w0.heap.size, j, none⟩ by unfold Addr.add; split <;> simp_all, World.cell?_alloc_new]
    simpa using hj
  · intro g cap w' h1 h2 _ _
    refine h g cap w' ?_ ((((Below.refl base w0).alloc hb _).grown h2 (by simp; omega) (fun b e => (own_lt hown e).1)))
    unfold OwnI
    rw [List.length_append, List.map_append]
    exact h1
end Go.Proofs.YtkmcohnhanphdaaGreatDoor
