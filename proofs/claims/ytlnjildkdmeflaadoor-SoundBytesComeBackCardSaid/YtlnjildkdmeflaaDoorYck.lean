/- Rows of chunks whose bytes may lie in blocks that are shared with a string. -/
import Derived.Test.YtlnjildkdmeflaaDoorYfm
import Derived.Laws.IdiomStrings
set_option linter.unusedSimpArgs false
set_option linter.unusedVariables false
namespace Go.Proofs.YtlnjildkdmeflaaDoor
open Go.RowKit Go.Dw
/-- bytes in a block of bytes -/
def InB (w : World) (r : Value) (bs : By) : Prop := ∃ A c, r = .slice A bs.length c ∧ bs.length ≤ c ∧ c ≤ maxLen ∧
  (bs.length = 0 ∨ ∃ b o cs fr, A = some ⟨b, o, none⟩ ∧ w.heap[b]? = some (.cells cs 5 fr) ∧ ∀ j, j < bs.length → cs[o + j]? = some (byV (byOf bs j)))
theorem InB.keep {w w' : World} {r : Value} {bs : By} (h : InB w r bs) (hk : ∀ (b : Nat) (cs : Array Value) (fr : Nat × Nat), w.heap[b]? = some (Obj.cells cs 5 fr) → w'.heap[b]? = w.heap[b]?) : InB w' r bs := by
  obtain ⟨A, c, e, h1, h2, h3⟩ := h
  refine ⟨A, c, e, h1, h2, ?_⟩
  rcases h3 with h3 | ⟨b, o, cs, fr, e2, h4, h5⟩
  · exact .inl h3
  · exact .inr ⟨b, o, cs, fr, e2, (hk b cs fr h4).trans h4, h5⟩
theorem InB.below {w w' : World} {r : Value} {bs : By} (h : InB w r bs) (hb : Below w.heap.size w w') : InB w' r bs :=
  h.keep fun b cs fr hh => hb.block b (Array.getElem?_eq_some_iff.1 hh).1
theorem InB.at_ {w : World} {A : Option Addr} {n c : Nat} {bs : By} (h : InB w (.slice A n c) bs) : BysAt w w.heap.size A n bs := by
  obtain ⟨A', c', e, h1, h2, h3⟩ := h
  injection e with e1 e2 e3
  subst e1 e2 e3
  refine ⟨rfl, fun j hj => ?_⟩
  rcases h3 with h3 | ⟨b, o, cs, fr, e2, h4, h5⟩
  · omega
  · exact ⟨b, o, e2, (Array.getElem?_eq_some_iff.1 h4).1, by rw [cell_of_row w b (o + j) cs 5 fr h4]; exact h5 j hj⟩
theorem OwnBys.inB {w : World} {base : Nat} {r : Value} {bs : By} (h : OwnBys w base r bs) : InB w r bs := by
  obtain ⟨A, c, rfl, h1, h2⟩ := h.form
  refine ⟨A, c, rfl, h1, h2, ?_⟩
  have hh : w.ownsRow base 5 1 (.slice A bs.length c) bs.length (bysC bs) := h
  rcases hh.2 with ⟨_, h0⟩ | ⟨g, cap, cur, e, hg, hc, h3, h4, h5, h6⟩
  · exact .inl h0
  · injection e with e1 e2 e3
    refine .inr ⟨g, 0, cur, (0, 0), e1, hc, fun j hj => ?_⟩
    have h7 := bysC_get (bs := bs) hj
    rw [← h6, List.getElem?_take_of_lt (by omega), Array.getElem?_toList] at h7
    rw [Nat.zero_add]
    exact h7
structure CksR (w : World) (B : Nat) (v : Value) (l : List Ck) (rows : List Value) : Prop where
  outer : w.ownsRow B 42 2 v l.length (cksC l rows)
  len : rows.length = l.length
  inner : ∀ (k : Nat) (r : Value), rows[k]? = some r → InB w r (ckOf l k).2
theorem CksR.below {w w' : World} {B : Nat} {v : Value} {l : List Ck} {rows : List Value} (h : CksR w B v l rows) (hb : Below w.heap.size w w') : CksR w' B v l rows :=
  ⟨own_below h.outer hb, h.len, fun k r hr => (h.inner k r hr).below hb⟩
theorem CksR.at_ {w : World} {B : Nat} {A : Option Addr} {n c : Nat} {l : List Ck} {rows : List Value} (h : CksR w B (.slice A n c) l rows) : CksAt w w.heap.size A n l := by
  obtain ⟨A', c', e, _, _⟩ := own_form h.outer
  injection e with e1 e2 e3
  subst e1 e2 e3
  refine ⟨rfl, fun k hk => ?_⟩
  have hh := h.outer
  rcases hh.2 with ⟨_, h1⟩ | ⟨g, cap, cur, e, hb, hhp, h1, h2, _⟩
  · omega
  · injection e with e1 e2 e3
    subst e1
    have hr : rows[k]? = some (rows[k]'(by rw [h.len]; exact hk)) := List.getElem?_eq_getElem _
    obtain ⟨g1, g2⟩ := cksC_get hk hr
    have hi := h.inner k _ hr
    obtain ⟨A5, c5, e5, h3, h4, _⟩ := hi
    have hi := h.inner k _ hr
    rw [e5] at g2 hi
    refine ⟨g, 0, rfl, (Array.getElem?_eq_some_iff.1 hhp).1, ?_, A5, c5, ?_, h3, h4, hi.at_⟩
    · rw [Nat.zero_add, hh.cellAt (k * 2) (by omega)]; exact g1
    · rw [Nat.zero_add, hh.cellAt (k * 2 + 1) (by omega)]; exact g2
theorem CksR.push {w0 w w' : World} {B : Nat} {v v' r : Value} {l : List Ck} {c : Ck} {rows : List Value} (h : CksR w0 B v l rows) (hb : Below w0.heap.size w0 w)
    (hr : InB w r c.2) (hv : w'.ownsRow B 42 2 v' (l.length + 1) (cksC l rows ++ ckV c r)) (hg : w.grownBy w' v.ownBlock) : CksR w' B v' (l ++ [c]) (rows ++ [r]) := by
  have hw := h.below hb
  have hold : ∀ k, k < l.length → ckOf (l ++ [c]) k = ckOf l k := fun k hk => by simp [ckOf, List.getD, List.getElem?_append_left hk]
  have hlast : ckOf (l ++ [c]) l.length = c := by simp [ckOf, List.getD]
  have hkp : ∀ (b : Nat) (cs : Array Value) (fr : Nat × Nat), w.heap[b]? = some (Obj.cells cs 5 fr) → w'.heap[b]? = w.heap[b]? := fun b cs fr hh =>
    hg.block b (Array.getElem?_eq_some_iff.1 hh).1 (fun e => own_ne_blk hw.outer hh (by decide) e.symm)
  refine ⟨by rw [cksC_snoc h.len, List.length_append]; exact hv, by simp [h.len], fun k q hq => ?_⟩
  by_cases hk : k < rows.length
  · rw [List.getElem?_append_left hk] at hq
    rw [hold k (by rw [← h.len]; exact hk)]
    exact (hw.inner k q hq).keep hkp
  · have hlt := (List.getElem?_eq_some_iff.1 hq).1
    simp only [List.length_append, List.length_singleton] at hlt
    obtain rfl : k = rows.length := by omega
    rw [List.getElem?_append_right (Nat.le_refl _)] at hq
    simp only [Nat.sub_self, List.getElem?_cons_zero, Option.some.injEq] at hq
    subst hq
    rw [h.len, hlast]
    exact hr.keep hkp
theorem cks_one {w : World} {N g : Nat} {nm : By} {d : By} {r : Value} (h : w.heap[g]? = some (.cells #[strOf nm, r] 42 (0, 0))) (hN : N ≤ g) (hr : InB w r d) : CksR w N (.slice (some ⟨g, 0, none⟩) 1 1) [(nm, d)] [r] := by
  refine ⟨⟨rfl, .inr ⟨g, 1, _, rfl, hN, h, Nat.le_refl _, by simp [maxLen], rfl, rfl⟩⟩, rfl, fun k q hq => ?_⟩
  cases k with
  | zero =>
    simp at hq
    subst hq
    exact hr
  | succ k => simp at hq
/-- a string's bytes in a new block -/
theorem bytes_new (s : ByteArray) (w : World) (hs : s.size ≤ maxLen) : ∃ W C, (convert 9 26 (.string s)).run Tryd.prog w = .ok (.slice (some ⟨w.heap.size, 0, none⟩) s.size C) W ∧ Hid (s.size ≤ C ∧ C ≤ maxLen) ∧ Hid (InB W (.slice (some ⟨w.heap.size, 0, none⟩) s.size C) s.data.toList) ∧ Hid (Below w.heap.size w W) := by
  refine ⟨_, _, run_bytes_of_string w 9 26 5 s Tryd.underlying9 Tryd.underlying26 Tryd.underlying5, ⟨grownCap_ge _ _ _ _, grownCap_le_maxLen _ _ _ _ hs⟩, ?_, ((Below.refl _ w).drew).alloc (Nat.le_refl _) _⟩
  have hl := len_dat s
  refine ⟨_, _, by rw [hl], by rw [hl]; exact grownCap_ge _ _ _ _, grownCap_le_maxLen _ _ _ _ hs, .inr ⟨w.heap.size, 0, _, _, rfl, heap_alloc_new _ _, fun j hj => ?_⟩⟩
  rw [hl] at hj
  have hj2 : j < s.data.size := hj
  rw [Nat.zero_add, bytesRow, Array.getElem?_append_left (by simpa using hj2)]
  simp [byV, byOf, List.getD, Array.getElem?_eq_getElem hj2]
end Go.Proofs.YtlnjildkdmeflaaDoor
