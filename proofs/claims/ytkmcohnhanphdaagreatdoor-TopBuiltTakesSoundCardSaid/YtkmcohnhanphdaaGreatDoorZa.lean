/- A pair of whole numbers. -/
import Derived.Test.YtkmcohnhanphdaaGreatDoorProg
import Derived.Test.YtkmcohnhanphdaaGreatDoorMem
import Derived.Test.YtkmcohnhanphdaaGreatDoorRegion2
import Derived.IntWalk
import Derived.Deep.Cut
import Derived.RegionTactic
import Derived.BigRegion
import Derived.OwnWalk
import Derived.Deep.OwnRows
import Derived.Laws.OwnMore
import Derived.Deep.DeepCutAuto
import Derived.BigQuiet
set_option linter.unusedSimpArgs false
set_option linter.unusedVariables false
namespace Go.Proofs.YtkmcohnhanphdaaGreatDoor
abbrev Pr := Int × Int
end Go.Proofs.YtkmcohnhanphdaaGreatDoor

/- Rows of pairs of whole numbers, read below a block, and rows of the call's own. -/
set_option linter.unusedSimpArgs false
set_option linter.unusedVariables false
namespace Go.Proofs.YtkmcohnhanphdaaGreatDoor
open Go.RowKit Go.Dw
def prOf (l : List Pr) (k : Nat) : Pr := l.getD k (0, 0)
/-- a row of pairs of whole numbers that lies below block B -/
def PrsAt (w : World) (B : Nat) (A : Option Addr) (n : Nat) (l : List Pr) : Prop :=
  l.length = n ∧ ∀ k, k < n → ∃ b o, A = some ⟨b, o, none⟩ ∧ b < B ∧ w.cell? ⟨b, o + k * 2, none⟩ = some (.int .i64 (prOf l k).1) ∧ w.cell? ⟨b, o + k * 2 + 1, none⟩ = some (.int .i64 (prOf l k).2)
theorem PrsAt.below {w w' : World} {B B' : Nat} {A : Option Addr} {n : Nat} {l : List Pr} (h : PrsAt w B A n l) (hb : Below B' w w') (hB : B ≤ B') : PrsAt w' B A n l :=
  ⟨h.1, fun k hk => by
    obtain ⟨b, o, e, h1, h2, h3⟩ := h.2 k hk
    exact ⟨b, o, e, h1, (hb.cell (p := ⟨b, o + k * 2, none⟩) (by dsimp only; omega)).trans h2, (hb.cell (p := ⟨b, o + k * 2 + 1, none⟩) (by dsimp only; omega)).trans h3⟩⟩
theorem PrsAt.mono {w : World} {B B' : Nat} {A : Option Addr} {n : Nat} {l : List Pr} (h : PrsAt w B A n l) (hB : B ≤ B') : PrsAt w B' A n l :=
  ⟨h.1, fun k hk => by
    obtain ⟨b, o, e, h1, h2⟩ := h.2 k hk
    exact ⟨b, o, e, by omega, h2⟩⟩
theorem PrsAt.to {w w' : World} {B B' : Nat} {A : Option Addr} {n : Nat} {l : List Pr} (h : PrsAt w B A n l) (hb : Below B' w w') (hB : B ≤ B') (hC : B ≤ w'.heap.size) : PrsAt w' w'.heap.size A n l := (h.below hb hB).mono hC
theorem PrsAt.nil (w : World) (B : Nat) (A : Option Addr) : PrsAt w B A 0 [] := ⟨rfl, fun k hk => by omega⟩
theorem drop_pr {l : List Pr} {k : Nat} (hk : k < l.length) : l.drop k = prOf l k :: l.drop (k + 1) := by
  rw [List.drop_eq_getElem_cons hk]; simp [prOf, List.getD, List.getElem?_eq_getElem hk]
theorem take_pr {l : List Pr} {k : Nat} (hk : k < l.length) : l.take (k + 1) = l.take k ++ [prOf l k] := by
  rw [List.take_succ_eq_append_getElem hk]; simp [prOf, List.getD, List.getElem?_eq_getElem hk]
theorem pr_mem {l : List Pr} {k : Nat} (hk : k < l.length) : prOf l k ∈ l := by
  simp [prOf, List.getD, List.getElem?_eq_getElem hk]
def prC (b : Pr) : List Value := [.int .i64 b.1, .int .i64 b.2]
def prsC (bs : List Pr) : List Value := (bs.map prC).flatten
theorem prsC_length : ∀ (bs : List Pr), (prsC bs).length = bs.length * 2
  | [] => rfl
  | b :: bs => by
    show (prC b ++ prsC bs).length = _
    rw [List.length_append, prsC_length bs, List.length_cons, Nat.succ_mul]; simp [prC]; omega
theorem prsC_snoc (bs : List Pr) (b : Pr) : prsC (bs ++ [b]) = prsC bs ++ prC b := by simp [prsC]
theorem prsC_get : ∀ {bs : List Pr} {k j : Nat}, k < bs.length → j < 2 → (prsC bs)[k * 2 + j]? = (prC (prOf bs k))[j]?
  | b :: bs, 0, j, _, hj => by
    show (prC b ++ prsC bs)[0 * 2 + j]? = _
    rw [List.getElem?_append_left (by simp [prC]; omega)]; simp [prOf]
  | b :: bs, k + 1, j, hk, hj => by
    show (prC b ++ prsC bs)[(k + 1) * 2 + j]? = _
    rw [List.getElem?_append_right (by simp [prC]; omega)]
    have : (k + 1) * 2 + j - (prC b).length = k * 2 + j := by simp [prC]; omega
    rw [this, prsC_get (by simpa using hk) hj]
    simp [prOf]
theorem prsC_set1 : ∀ {bs : List Pr} {k : Nat} {y : Int}, k < bs.length → (prsC bs).set (k * 2 + 1) (.int .i64 y) = prsC (bs.set k ((prOf bs k).1, y))
  | c :: bs, 0, y, _ => by simp [prsC, prC, prOf]
  | c :: bs, k + 1, y, hk => by
    have ih := prsC_set1 (bs := bs) (k := k) (y := y) (by simpa using hk)
    have e : prsC ((c :: bs).set (k + 1) ((prOf (c :: bs) (k + 1)).1, y)) = prC c ++ prsC (bs.set k ((prOf bs k).1, y)) := by simp [prsC, prOf]
    have e2 : prsC (c :: bs) = prC c ++ prsC bs := by simp [prsC]
    rw [e, e2, ← ih]
    have hl : (prC c).length = 2 := rfl
    rw [List.set_append_right _ _ (by omega), hl]
    rw [show (k + 1) * 2 + 1 - 2 = k * 2 + 1 by omega]
theorem prsC_set : ∀ {bs : List Pr} {k : Nat} {b : Pr}, k < bs.length → ((prsC bs).set (k * 2) (.int .i64 b.1)).set (k * 2 + 1) (.int .i64 b.2) = prsC (bs.set k b)
  | c :: bs, 0, b, _ => by simp [prsC, prC]
  | c :: bs, k + 1, b, hk => by
    have ih := prsC_set (bs := bs) (k := k) (b := b) (by simpa using hk)
    have e : prsC ((c :: bs).set (k + 1) b) = prC c ++ prsC (bs.set k b) := by simp [prsC]
    have e2 : prsC (c :: bs) = prC c ++ prsC bs := by simp [prsC]
    rw [e, e2, ← ih]
    have hl : (prC c).length = 2 := rfl
    rw [List.set_append_right _ _ (by omega), List.set_append_right _ _ (by omega), hl]
    rw [show (k + 1) * 2 - 2 = k * 2 by omega, show (k + 1) * 2 + 1 - 2 = k * 2 + 1 by omega]
/-- a row of pairs of the call's own, of type E -/
def OwnPrs (E : TypeId) (w : World) (base : Nat) (v : Value) (bs : List Pr) : Prop := w.ownsRow base E 2 v bs.length (prsC bs)
theorem OwnPrs.set_ {E : TypeId} {w : World} {base g n cap k : Nat} {bs : List Pr} (h : OwnPrs E w base (.slice (some ⟨g, 0, none⟩) n cap) bs) (hk : k < bs.length) (b : Pr) :
    OwnPrs E ((w.setCell ⟨g, k * 2, none⟩ (.int .i64 b.1)).setCell ⟨g, k * 2 + 1, none⟩ (.int .i64 b.2)) base (.slice (some ⟨g, 0, none⟩) n cap) (bs.set k b) := by
  have hn' : n = bs.length := by
    obtain ⟨A', c', e, _, _⟩ := own_form h
    injection e
  subst hn'
  unfold OwnPrs at *
  have h1 := (h.stored (k * 2) (.int .i64 b.1)).1.stored (k * 2 + 1) (.int .i64 b.2)
  rw [prsC_set hk] at h1
  rw [List.length_set]
  exact h1.1
theorem OwnPrs.set1 {E : TypeId} {w : World} {base g n cap k : Nat} {bs : List Pr} (h : OwnPrs E w base (.slice (some ⟨g, 0, none⟩) n cap) bs) (hk : k < bs.length) (y : Int) :
    OwnPrs E (w.setCell ⟨g, k * 2 + 1, none⟩ (.int .i64 y)) base (.slice (some ⟨g, 0, none⟩) n cap) (bs.set k ((prOf bs k).1, y)) := by
  have hn' : n = bs.length := by
    obtain ⟨A', c', e, _, _⟩ := own_form h
    injection e
  subst hn'
  unfold OwnPrs at *
  have h1 := h.stored (k * 2 + 1) (.int .i64 y)
  rw [prsC_set1 hk] at h1
  rw [List.length_set]
  exact h1.1
theorem OwnPrs.slot {E : TypeId} {w : World} {base : Nat} {v : Value} {bs : List Pr} (h : OwnPrs E w base v bs) (h0 : 0 < bs.length) : ∃ g cap, v = .slice (some ⟨g, 0, none⟩) bs.length cap ∧ base ≤ g ∧ g < w.heap.size ∧ bs.length ≤ cap ∧ cap ≤ maxLen ∧
    ∀ k, k < bs.length → (w.cell? ⟨g, k * 2, none⟩ = some (.int .i64 (prOf bs k).1) ∧ w.cell? ⟨g, k * 2 + 1, none⟩ = some (.int .i64 (prOf bs k).2)) ∧
      (w.frozen? ⟨g, k * 2, none⟩ = false ∧ w.frozen? ⟨g, k * 2 + 1, none⟩ = false) := by
  have hh : w.ownsRow base E 2 v bs.length (prsC bs) := h
  rcases hh.2 with ⟨_, h1⟩ | ⟨g, cap, cur, rfl, hb, hhp, h1, h2, _⟩
  · have := prsC_length bs
    rw [h1] at h0; omega
  · refine ⟨g, cap, rfl, hb, (Array.getElem?_eq_some_iff.1 hhp).1, h1, h2, fun k hk => ⟨⟨?_, ?_⟩, hh.frozenAt _, hh.frozenAt _⟩⟩
    · rw [hh.cellAt (k * 2) (by omega)]; have := prsC_get (j := 0) hk (by omega); simpa [prC] using this
    · rw [hh.cellAt (k * 2 + 1) (by omega)]; have := prsC_get (j := 1) hk (by omega); simpa [prC] using this
theorem OwnPrs.at_ {E : TypeId} {w : World} {base : Nat} {A : Option Addr} {n c : Nat} {bs : List Pr} (h : OwnPrs E w base (.slice A n c) bs) : PrsAt w w.heap.size A n bs := by
  obtain ⟨A', c', e, _, _⟩ := own_form h
  injection e with e1 e2 e3
  subst e1 e2 e3
  refine ⟨rfl, fun k hk => ?_⟩
  obtain ⟨g, cap, e, hg, hgl, _, _, hc⟩ := h.slot (by omega)
  injection e with e1 e2 e3
  obtain ⟨⟨c1, c2⟩, -⟩ := hc k hk
  exact ⟨g, 0, e1, hgl, by rw [Nat.zero_add]; exact c1, by rw [Nat.zero_add]; exact c2⟩
theorem OwnPrs.below {E : TypeId} {w w' : World} {base : Nat} {v : Value} {bs : List Pr} (h : OwnPrs E w base v bs) (hb : Below w.heap.size w w') : OwnPrs E w' base v bs := own_below h hb
theorem OwnPrs.nil (E : TypeId) (w : World) (base : Nat) : OwnPrs E w base (.slice none 0 0) [] := World.ownsRow_nil _ _ _ _
theorem OwnPrs.len {E : TypeId} {w : World} {base : Nat} {v : Value} {bs : List Pr} (h : OwnPrs E w base v bs) : ∃ A c, v = .slice A bs.length c ∧ bs.length ≤ c ∧ c ≤ maxLen := own_form h
theorem cell_new0 (w : World) (T : TypeId) (cs : Array Value) : ∃ W gx, W = w.alloc (.cells cs T) ∧ gx = w.heap.size ∧ Hid (W.heap[gx]? = some (.cells cs T (0, 0))) ∧ Hid (Below w.heap.size w W) ∧ Hid (W.heap.size = w.heap.size + 1) :=
  ⟨_, _, rfl, rfl, heap_alloc_new _ _, (Below.refl _ _).alloc (Nat.le_refl _) _, by show _ = _; simp⟩
end Go.Proofs.YtkmcohnhanphdaaGreatDoor

/- Rows of spans and of pairs: one more, all zeros, equality. -/
set_option linter.unusedSimpArgs false
set_option linter.unusedVariables false
namespace Go.Proofs.YtkmcohnhanphdaaGreatDoor
open Go.RowKit Go.Dw
theorem span_info : (Tryz.prog.info? 51).map (fun i => (i.zero, i.size, i.bytes)) = some (some (.agg #[.int .i64 0, .int .i64 0]), 2, 16) := by kernel_rfl
theorem madeCells_two (n : Nat) : (madeCells #[Value.int .i64 0, .int .i64 0] (n * 2)).toList = prsC (List.replicate n (0, 0)) := by
  apply List.ext_getElem?
  intro j
  by_cases hj : j < n * 2
  · have h1 : (madeCells #[Value.int .i64 0, .int .i64 0] (n * 2)).toList[j]? = some (.int .i64 0) := by
      have : j % 2 = 0 ∨ j % 2 = 1 := by omega
      rcases this with h | h <;> simp [madeCells, hj, h]
    rw [h1]
    have h2 := prsC_get (bs := List.replicate n ((0 : Int), (0 : Int))) (k := j / 2) (j := j % 2) (by simp; omega) (by omega)
    rw [show j / 2 * 2 + j % 2 = j by omega] at h2
    rw [h2]
    have h3 : prOf (List.replicate n ((0 : Int), (0 : Int))) (j / 2) = (0, 0) := by
      simp [prOf, List.getD, List.getElem?_replicate]; split <;> rfl
    rw [h3]
    have : j % 2 = 0 ∨ j % 2 = 1 := by omega
    rcases this with h | h <;> simp [prC, h]
  · rw [List.getElem?_eq_none (by simp [madeCells]; omega), List.getElem?_eq_none (by rw [prsC_length]; simp; omega)]
end Go.Proofs.YtkmcohnhanphdaaGreatDoor

/- Rows of spans: one more. -/
set_option linter.unusedSimpArgs false
set_option linter.unusedVariables false
namespace Go.Proofs.YtkmcohnhanphdaaGreatDoor
open Go.RowKit Go.Dw
end Go.Proofs.YtkmcohnhanphdaaGreatDoor
