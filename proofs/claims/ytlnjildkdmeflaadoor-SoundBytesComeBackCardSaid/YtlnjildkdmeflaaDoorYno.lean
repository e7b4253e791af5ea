/- Rows of notes. -/
import Derived.Test.YtlnjildkdmeflaaDoorYnm
import Derived.Test.YtlnjildkdmeflaaDoorPush
import Derived.Deep.AppendLies
set_option linter.unusedSimpArgs false
set_option linter.unusedVariables false
namespace Go.Proofs.YtlnjildkdmeflaaDoor
open Go.RowKit Go.Dw
/-- a note: its name and its text -/
abbrev Nx := ByteArray × ByteArray
def nxOf (l : List Nx) (k : Nat) : Nx := l.getD k (⟨#[]⟩, ⟨#[]⟩)
theorem take_nx {l : List Nx} {k : Nat} (hk : k < l.length) : l.take (k + 1) = l.take k ++ [nxOf l k] := by
  rw [List.take_succ_eq_append_getElem hk]; simp [nxOf, List.getD, List.getElem?_eq_getElem hk]
theorem drop_nx {l : List Nx} {k : Nat} (hk : k < l.length) : l.drop k = nxOf l k :: l.drop (k + 1) := by
  rw [List.drop_eq_getElem_cons hk]; simp [nxOf, List.getD, List.getElem?_eq_getElem hk]
theorem nx_mem {l : List Nx} {k : Nat} (hk : k < l.length) : nxOf l k ∈ l := by
  simp [nxOf, List.getD, List.getElem?_eq_getElem hk]
/-- a row of notes that lies below block B -/
def NtsAt (w : World) (B : Nat) (A : Option Addr) (n : Nat) (l : List Nx) : Prop :=
  l.length = n ∧ ∀ k, k < n → ∃ b o, A = some ⟨b, o, none⟩ ∧ b < B ∧ w.cell? ⟨b, o + k * 2, none⟩ = some (.string (nxOf l k).1) ∧ w.cell? ⟨b, o + k * 2 + 1, none⟩ = some (.string (nxOf l k).2)
theorem NtsAt.below {w w' : World} {B B' : Nat} {A : Option Addr} {n : Nat} {l : List Nx} (h : NtsAt w B A n l) (hb : Below B' w w') (hB : B ≤ B') : NtsAt w' B A n l :=
  ⟨h.1, fun k hk => by
    obtain ⟨b, o, e, h1, h2, h3⟩ := h.2 k hk
    exact ⟨b, o, e, h1, (hb.cell (p := ⟨b, o + k * 2, none⟩) (by dsimp only; omega)).trans h2, (hb.cell (p := ⟨b, o + k * 2 + 1, none⟩) (by dsimp only; omega)).trans h3⟩⟩
theorem NtsAt.mono {w : World} {B B' : Nat} {A : Option Addr} {n : Nat} {l : List Nx} (h : NtsAt w B A n l) (hB : B ≤ B') : NtsAt w B' A n l :=
  ⟨h.1, fun k hk => by
    obtain ⟨b, o, e, h1, h2⟩ := h.2 k hk
    exact ⟨b, o, e, by omega, h2⟩⟩
theorem NtsAt.nil (w : World) (B : Nat) (A : Option Addr) : NtsAt w B A 0 [] := ⟨rfl, fun k hk => by omega⟩
def nxC (b : Nx) : List Value := [.string b.1, .string b.2]
def nxsC (bs : List Nx) : List Value := (bs.map nxC).flatten
theorem nxsC_length : ∀ (bs : List Nx), (nxsC bs).length = bs.length * 2
  | [] => rfl
  | b :: bs => by
    show (nxC b ++ nxsC bs).length = _
    rw [List.length_append, nxsC_length bs, List.length_cons, Nat.succ_mul]; simp [nxC]; omega
theorem nxsC_snoc (bs : List Nx) (b : Nx) : nxsC (bs ++ [b]) = nxsC bs ++ nxC b := by simp [nxsC]
theorem nxsC_get : ∀ {bs : List Nx} {k j : Nat}, k < bs.length → j < 2 → (nxsC bs)[k * 2 + j]? = (nxC (nxOf bs k))[j]?
  | b :: bs, 0, j, _, hj => by
    show (nxC b ++ nxsC bs)[0 * 2 + j]? = _
    rw [List.getElem?_append_left (by simp [nxC]; omega)]; simp [nxOf]
  | b :: bs, k + 1, j, hk, hj => by
    show (nxC b ++ nxsC bs)[(k + 1) * 2 + j]? = _
    rw [List.getElem?_append_right (by simp [nxC]; omega)]
    have : (k + 1) * 2 + j - (nxC b).length = k * 2 + j := by simp [nxC]; omega
    rw [this, nxsC_get (by simpa using hk) hj]
    simp [nxOf]
/-- a row of notes of the call's own -/
def OwnNts (w : World) (base : Nat) (v : Value) (bs : List Nx) : Prop := w.ownsRow base 36 2 v bs.length (nxsC bs)
theorem OwnNts.nil (w : World) (base : Nat) : OwnNts w base (.slice none 0 0) [] := World.ownsRow_nil _ _ _ _
theorem OwnNts.below {w w' : World} {base : Nat} {v : Value} {bs : List Nx} (h : OwnNts w base v bs) (hb : Below w.heap.size w w') : OwnNts w' base v bs := own_below h hb
theorem OwnNts.len {w : World} {base : Nat} {v : Value} {bs : List Nx} (h : OwnNts w base v bs) : ∃ A c, v = .slice A bs.length c ∧ bs.length ≤ c ∧ c ≤ maxLen := own_form h
theorem OwnNts.lower {w : World} {B base : Nat} {v : Value} {bs : List Nx} (h : OwnNts w B v bs) (hb : base ≤ B) : OwnNts w base v bs := by
  rcases h with ⟨hl, h0 | ⟨g, cap, cur, e, hg, r⟩⟩
  · exact ⟨hl, .inl h0⟩
  · exact ⟨hl, .inr ⟨g, cap, cur, e, Nat.le_trans hb hg, r⟩⟩
theorem OwnNts.at_ {w : World} {base : Nat} {A : Option Addr} {n c : Nat} {bs : List Nx} (h : OwnNts w base (.slice A n c) bs) : NtsAt w w.heap.size A n bs := by
  obtain ⟨A', c', e, _, _⟩ := h.len
  injection e with e1 e2 e3
  subst e1 e2 e3
  refine ⟨rfl, fun k hk => ?_⟩
  have hh : w.ownsRow base 36 2 (.slice A bs.length c) bs.length (nxsC bs) := h
  rcases hh.2 with ⟨_, h1⟩ | ⟨g, cap, cur, e, hb, hhp, h1, h2, _⟩
  · omega
  · injection e with e1 e2 e3
    refine ⟨g, 0, e1, (Array.getElem?_eq_some_iff.1 hhp).1, ?_⟩
    subst e1
    have g0 := nxsC_get (bs := bs) (k := k) (j := 0) hk (by omega)
    have g1 := nxsC_get (bs := bs) (k := k) (j := 1) hk (by omega)
    rw [Nat.add_zero] at g0
    rw [Nat.zero_add, hh.cellAt (k * 2) (by omega), hh.cellAt (k * 2 + 1) (by omega), g0, g1]
    exact ⟨rfl, rfl⟩
theorem note_info : (Tryd.prog.info? 36).map (fun i => (i.zero, i.size, i.bytes)) = some (some (.agg #[.string ⟨#[]⟩, .string ⟨#[]⟩]), 2, 32) := by kernel_rfl
theorem wpList_push_note {ops : Array Oper} {rest : List Oper} {o : Oper} {a : Act} {Q : Exit → Act → World → Prop} {w0 : World} (hgd : o.guard = none) (s x : Operand)
    (ho : o.op = .call { callee := .builtin .append, args := #[s, x], argTypes := #[25, 25] }) (base : Nat) (A : Option Addr) (n c : Nat) (bs : List Nx) (x1 x2 : ByteArray) (g0 : Nat) (hg0 : w0.heap.size = g0)
    (hs : a.eval s = .slice A n c) (hx : a.eval x = .slice (some ⟨g0, 0, none⟩) 1 1) (hown : OwnNts w0 base (.slice A n c) bs) (hn : n ≤ 1000000) (hb : base ≤ w0.heap.size)
    (h : ∀ g cap w', OwnNts w' base (.slice (some ⟨g, 0, none⟩) (n + 1) cap) (bs ++ [(x1, x2)]) → Below base w0 w' → w0.grownBy w' (Value.slice A n c).ownBlock → wpList Tryd.prog ops Q rest (a.put o.dst (.slice (some ⟨g, 0, none⟩) (n + 1) cap)) w') :
    wpList Tryd.prog ops Q (o :: rest) a (w0.alloc (.cells #[.string x1, .string x2] 36)) := by
  obtain ⟨i1, e0, e1, e2, e3⟩ := info_parts note_info
  subst hg0
  have hn' : n = bs.length := by
    obtain ⟨A', c', e, _, _⟩ := own_form hown
    injection e
  subst hn'
  refine wpList_append_lies _ hgd s x 25 ho base 36 i1 _ 2 32 Tryd.underlying25 e0 e1 e2 e3 rfl (by omega) (.slice A bs.length c) bs.length (nxsC bs) hs (World.ownsRow.alloc hown _) ⟨w0.heap.size, 0, none⟩ 1 1 (nxC (x1, x2)) hx rfl (fun j u hj => ?_) (by intro z hz; simp [nxC] at hz; rcases hz with rfl | rfl <;> rfl) (by omega) (by simp only [maxLen]; omega) (by omega) (by simp; omega) _ rfl ?_
  · rw [show (⟨w0.heap.size, 0, none⟩ : Addr).add j = ⟨w0.heap.size, j, none⟩ by unfold Addr.add; split <;> simp_all, World.cell?_alloc_new]
    simpa [nxC] using hj
  · intro g cap w' h1 h2 _ _
    refine h g cap w' ?_ ((((Below.refl base w0).alloc hb _).grown h2 (by simp; omega) (fun b e => (own_lt hown e).1))) ((World.grownBy_alloc w0 _ _).trans h2)
    unfold OwnNts
    rw [nxsC_snoc, List.length_append]
    exact h1
end Go.Proofs.YtlnjildkdmeflaaDoor
