/- Rows of numbers of the call's own, of any kind and element type, to which is appended. -/
import Derived.Test.YtcjdmffflepplaaDoorNm
import Derived.Test.YtcjdmffflepplaaDoorMem
set_option linter.unusedSimpArgs false
set_option linter.unusedVariables false
namespace Go.Dw
open Go.RowKit

/-- slice (A, n, c) owns the numbers L, in blocks from B on -/
def OwnN (k : IntKind) (E : TypeId) (w : World) (B : Nat) (A : Option Addr) (n c : Nat) (L : List Nat) : Prop := L.length = n ∧ w.ownsRow B E 1 (.slice A n c) n (L.map fun d => Value.int k ((d : Nat) : Int))
section
variable {k : IntKind} {E : TypeId} {w w' : World} {B B' n c : Nat} {A : Option Addr} {L : List Nat}
theorem OwnN.nil (k : IntKind) (E : TypeId) (w : World) (B : Nat) : OwnN k E w B none 0 0 [] := ⟨rfl, World.ownsRow_nil _ _ _ _⟩
theorem OwnN.below (h : OwnN k E w B A n c L) (hb : Below w.heap.size w w') : OwnN k E w' B A n c L := ⟨h.1, own_below h.2 hb⟩
theorem OwnN.drew (h : OwnN k E w B A n c L) : OwnN k E w.drew B A n c L := h
theorem OwnN.drewN (h : OwnN k E w B A n c L) (q : Nat) : OwnN k E (w.drewN q) B A n c L := h
theorem OwnN.base (h : OwnN k E w B A n c L) (hB : B' ≤ B) : OwnN k E w B' A n c L := ⟨h.1, own_base h.2 hB⟩
theorem OwnN.alloc (h : OwnN k E w B A n c L) (o : Obj) : OwnN k E (w.alloc o) B A n c L := ⟨h.1, h.2.alloc o⟩
theorem OwnN.form (h : OwnN k E w B A n c L) : n ≤ c ∧ c ≤ maxLen := by
  obtain ⟨A', c', e, h1, h2⟩ := own_form h.2
  injection e with _ _ e3
  subst e3
  exact ⟨h1, h2⟩
theorem OwnN.addr (h : OwnN k E w B A n c L) (hn : 0 < n) : ∃ g, A = some ⟨g, 0, none⟩ ∧ B ≤ g ∧ g < w.heap.size := by
  rcases h.2.2 with ⟨e, h0⟩ | ⟨g, cap, cur, e, hb, hh, _⟩
  · omega
  · injection e with e1
    exact ⟨g, e1, hb, (Array.getElem?_eq_some_iff.1 hh).1⟩
theorem OwnN.cell {g : Nat} (h : OwnN k E w B (some ⟨g, 0, none⟩) n c L) {i : Nat} (hi : i < n) : w.cell? ⟨g, i, none⟩ = some (.int k (L.getD i 0 : Nat)) := by
  have h1 := h.2.cellAt i (by omega)
  have hl := h.1
  rw [h1]
  simp [List.getD, show i < L.length by omega]
theorem OwnN.frozen {g : Nat} (h : OwnN k E w B (some ⟨g, 0, none⟩) n c L) (i : Nat) : w.frozen? ⟨g, i, none⟩ = false := h.2.frozenAt i
theorem OwnN.set {g : Nat} (h : OwnN k E w B (some ⟨g, 0, none⟩) n c L) (i d : Nat) : OwnN k E (w.setCell ⟨g, i, none⟩ (.int k ((d : Nat) : Int))) B (some ⟨g, 0, none⟩) n c (L.set i d) := by
  refine ⟨by rw [List.length_set]; exact h.1, ?_⟩
  have := (h.2.stored i (.int k ((d : Nat) : Int))).1
  rwa [← List.map_set] at this
theorem OwnN.ty {g : Nat} (h : OwnN k E w B (some ⟨g, 0, none⟩) n c L) : TyAt E w g := by
  rcases h.2.2 with ⟨e, _⟩ | ⟨g2, cap, cur, e, _, hh, _⟩
  · injection e with e; cases e
  · injection e with e
    injection e with e
    injection e with e
    subst e
    exact ⟨_, _, hh⟩
theorem OwnN.row (h : OwnN k E w B A n c L) : RowAt k E w w.heap.size A n L := by
  refine ⟨h.1, fun i hi => ?_⟩
  obtain ⟨g, rfl, _, hg⟩ := h.addr (by omega)
  exact ⟨g, 0, rfl, hg, h.ty, by rw [Nat.zero_add]; exact h.cell hi⟩
theorem OwnN.num {b : Nat} (h : OwnN k E w B A n c L) (hc : CanN b L) : NumAt k E b w w.heap.size A n c (valB b L) := ⟨h.form.1, h.form.2, L, hc, rfl, h.row⟩
/-- a block of the call's own is a row of its own -/
theorem OwnN.of_blk {g : Nat} (h : BlkN k E w g L) (hB : B ≤ g) (hm : L.length ≤ maxLen) : OwnN k E w B (some ⟨g, 0, none⟩) L.length L.length L :=
  ⟨rfl, by simp, .inr ⟨g, L.length, cellsN k L, rfl, hB, h, Nat.le_refl _, hm, by simp [cellsN], by simp only [cellsN]; rw [Nat.mul_one]; exact List.take_of_length_le (by simp)⟩⟩
end
/-- one more number behind a row -/
theorem wpList_push_num {P : Program} {ops : Array Oper} {rest : List Oper} {o : Oper} {a : Act} {Q : Exit → Act → World → Prop} {w0 : World} (hgd : o.guard = none) (s x : Operand) (T E : TypeId) (k : IntKind) (bytes : Nat)
    (ho : o.op = .call { callee := .builtin .append, args := #[s, x], argTypes := #[T, T] }) (hT : P.underlying T = some (.slice E)) (hE : (P.info? E).map (fun i => (i.zero, i.size, i.bytes)) = some (some (.int k 0), 1, bytes)) (base : Nat) (A : Option Addr) (n c : Nat) (L : List Nat) (d : Nat) (z : Int) (hz : z = (d : Int)) (g0 : Nat) (hg0 : w0.heap.size = g0)
    (hs : a.eval s = .slice A n c) (hx : a.eval x = .slice (some ⟨g0, 0, none⟩) 1 1) (hown : OwnN k E w0 base A n c L) (hn : n ≤ 1000000000000) (hbytes : bytes ≤ 8) (hb : base ≤ w0.heap.size)
    (h : ∀ g cap w', Hid (OwnN k E w' base (some ⟨g, 0, none⟩) (n + 1) cap (L ++ [d])) → Hid (Below base w0 w') → Hid ((A = some ⟨g, 0, none⟩ ∨ w0.heap.size ≤ g) ∧ ∀ b, b < w0.heap.size → (∀ g', A = some ⟨g', 0, none⟩ → b ≠ g') → w'.heap[b]? = w0.heap[b]?) → wpList P ops Q rest (a.put o.dst (.slice (some ⟨g, 0, none⟩) (n + 1) cap)) w') :
    wpList P ops Q (o :: rest) a (w0.alloc (.cells #[.int k z] E)) := by
  obtain ⟨i1, e0, e1, e2, e3⟩ := info_parts hE
  subst hg0
  subst hz
  have hl := hown.1
  have hb9 : (n + 1) * bytes ≤ (n + 1) * 8 := Nat.mul_le_mul_left _ hbytes
  refine wpList_append_lies _ hgd s x T ho base E i1 _ 1 bytes hT e0 e1 e2 e3 rfl (by omega) (.slice A n c) n _ hs (hown.2.alloc _) ⟨w0.heap.size, 0, none⟩ 1 1 [.int k ((d : Nat) : Int)] hx rfl (cell_one_new _ _ _) (by intro u hu; simp at hu; subst hu; rfl) (by omega) (by simp only [maxLen]; omega) (by omega) (by simp; omega) _ rfl ?_
  intro g cap w' h1 h2 h3 _
  refine h g cap w' ⟨by simp [hl], by simpa using h1⟩ ((((Below.refl base w0).alloc hb _).grown h2 (by simp; omega) (fun b e => (own_lt hown.2 e).1))) ⟨?_, fun b hb hne => ?_⟩
  · rcases h3 with h3 | h3
    · left
      cases A with
      | none => simp [Value.ownBlock] at h3
      | some ad =>
        have hn0 : (some ad : Option Addr) = some ⟨g, 0, none⟩ := by
          simp only [Value.ownBlock, Option.some.injEq] at h3
          rcases hown.2.2 with ⟨e, _⟩ | ⟨g2, cap2, cur, e, _⟩
          · injection e with e; cases e
          · injection e with e
            rw [e]
            injection e with e
            subst e
            have h4 : g2 = g := h3
            rw [h4]
        exact hn0
    · right
      simp only [Value.ownBlock, Option.some.injEq, World.size_alloc] at h3
      omega
  · refine (h2.block b (by simp; omega) (fun e9 => ?_)).trans (Below.heap_alloc _ _ _ hb)
    cases A with
    | none => simp [Value.ownBlock] at e9
    | some ad =>
      rcases hown.2.2 with ⟨e, _⟩ | ⟨g2, cap2, cur, e, _⟩
      · injection e with e; cases e
      · injection e with e
        rw [e] at e9
        simp only [Value.ownBlock, Option.some.injEq] at e9
        exact hne g2 e e9
end Go.Dw
