/- A loop that fills a blank sound of the call's own, element by element. -/
import Derived.Test.YtpnbkkpbgpcgiaaBlank
import Derived.Test.YtpnbkkpbgpcgiaaRCheck
import Derived.Test.YtpnbkkpbgpcgiaaSpecB
set_option linter.unusedSimpArgs false
set_option linter.unusedVariables false
namespace Go.Proofs.Ytpnbkkpbgpcgiaa
open Go.RowKit Go.Dw

/-- what holds at every element's head: the sound lies in the box g, its rows read as yss -/
structure FillI (N : Nat) (W : World) (g : Nat) (o0 : Value) (gv n cV : Nat) (rows : List Value) (wr : World) (yss : List (List Int)) : Prop where
  below : Below N W wr
  box : wr.heap[g]? = some (.cells #[o0, .slice (some ⟨gv, 0, none⟩) n cV] 24 (0, 0))
  own : OwnRowsL wr N (.slice (some ⟨gv, 0, none⟩) n cV) yss rows
  ge : N ≤ g
section
variable {N : Nat} {W : World} {g : Nat} {o0 : Value} {gv n cV : Nat} {rows : List Value} {wr w2 : World} {yss : List (List Int)}
theorem FillI.drew (h : FillI N W g o0 gv n cV rows wr yss) : FillI N W g o0 gv n cV rows wr.drew yss := ⟨h.below.drew, h.box, h.own.drew, h.ge⟩
theorem FillI.drewN (h : FillI N W g o0 gv n cV rows wr yss) (q : Nat) : FillI N W g o0 gv n cV rows (wr.drewN q) yss := ⟨belowN h.below q, h.box, ⟨h.own.outer, h.own.inner, h.own.apart⟩, h.ge⟩
theorem FillI.next (h : FillI N W g o0 gv n cV rows wr yss) (hN : N ≤ W.heap.size) (hb : Below wr.heap.size wr w2) : FillI N W g o0 gv n cV rows w2 yss :=
  ⟨Below.next h.below hN hb, (hb.block g (blk_lt h.box)).trans h.box, h.own.below hb, h.ge⟩
theorem FillI.set_ (h : FillI N W g o0 gv n cV rows wr yss) {k b m cap : Nat} (hr : rows[k]? = some (.slice (some ⟨b, 0, none⟩) m cap)) (j : Nat) (y : Int) :
    FillI N W g o0 gv n cV rows (wr.setCell ⟨b, j, none⟩ (.int .i64 y)) (yss.set k ((rowOf yss k).set j y)) := by
  have hin := h.own.inner k _ hr
  have hb : N ≤ b := (own_lt hin rfl).1
  have hne : b ≠ g := fun e => own_ne_blk hin h.box (by decide) (by rw [e]; rfl)
  exact ⟨h.below.setCell (p := ⟨b, j, none⟩) hb _, (Below.heap_setCell _ _ _ _ (by simp; omega)).trans h.box, h.own.setEl hr, h.ge⟩
theorem FillI.put {Y : List (List Int)} {m k j b cap : Nat} {y : Int} (h : FillI N W g o0 gv n cV rows wr (partK Y m k j)) (hr : rows[k]? = some (.slice (some ⟨b, 0, none⟩) m cap)) (hk : k < Y.length) (hl : (rowOf Y k).length = m) (hj : j < m) (hy : elOf (rowOf Y k) j = y) :
    FillI N W g o0 gv n cV rows (wr.setCell ⟨b, j, none⟩ (.int .i64 y)) (partK Y m k (j + 1)) := by
  have := h.set_ hr j y
  rwa [partK_set hk hl hj hy] at this
theorem FillI.slot (h : FillI N W g o0 gv n cV rows wr yss) {k m : Nat} (hk : k < yss.length) (hm : (rowOf yss k).length = m) (h0 : 0 < m) : ∃ b cap, rows[k]? = some (.slice (some ⟨b, 0, none⟩) m cap) ∧ m ≤ cap ∧ cap ≤ maxLen ∧ n = yss.length ∧ n ≤ cV ∧ cV ≤ maxLen := by
  obtain ⟨r, h1, h2⟩ := h.own.row hk
  rw [hm] at h2
  obtain ⟨b, cap, rfl, _, _, h3, h4, _⟩ := own_slot h2 h0
  obtain ⟨A, c, e, h5, h6⟩ := own_form h.own.outer
  injection e with e1 e2 e3
  exact ⟨b, cap, h1, h3, h4, e2, by omega, by omega⟩
/-- what a walk reads: the sound's rows, the row, its element; it may be written -/
theorem FillI.cells (h : FillI N W g o0 gv n cV rows wr yss) {k b m cap : Nat} (hr : rows[k]? = some (.slice (some ⟨b, 0, none⟩) m cap)) : wr.cell? ⟨g, 1, none⟩ = some (.slice (some ⟨gv, 0, none⟩) n cV) ∧ wr.cell? ⟨gv, k, none⟩ = some (.slice (some ⟨b, 0, none⟩) m cap) := by
  have hk : k < rows.length := (List.getElem?_eq_some_iff.1 hr).1
  have hn : n = yss.length := by
    obtain ⟨A, c, e, _, _⟩ := own_form h.own.outer
    injection e
  have ho := h.own.outer
  rw [← hn] at ho
  have hl := ho.1
  exact ⟨own_cell1 h.box 1, (ho.cellAt k (by omega)).trans hr⟩
theorem FillI.elem (h : FillI N W g o0 gv n cV rows wr yss) {k b m cap j : Nat} (hr : rows[k]? = some (.slice (some ⟨b, 0, none⟩) m cap)) (hj : j < m) : (∃ vo, wr.cell? ⟨b, j, none⟩ = some vo) ∧ wr.frozen? ⟨b, j, none⟩ = false := by
  have hin := h.own.inner k _ hr
  have hm : m = (rowOf yss k).length := by
    obtain ⟨A, c, e, _, _⟩ := own_form hin
    injection e
  subst hm
  exact ⟨⟨_, (hin.cellAt j (by omega)).trans (List.getElem?_eq_getElem (by simp; exact hj))⟩, hin.frozenAt j⟩
end
/-- a blank sound is put into a new box -/
theorem FillI.start {N : Nat} {W w : World} {o0 : Value} {A : Option Addr} {n c T m : Nat} {yss : List (List Int)} (hy : yss.length = T) (hb : Below N W w) (hN : N ≤ w.heap.size) (ho : OwnRows w N (.slice A n c) (zeroS T m)) (hT : 0 < T) :
    ∃ gv rows, A = some ⟨gv, 0, none⟩ ∧ n = T ∧ FillI N W w.heap.size o0 gv n c rows (w.alloc (.cells #[o0, .slice A n c] 24)) (partK yss m 0 0) := by
  rw [partK_start, hy]
  obtain ⟨rows, hL⟩ := ho
  have h1 := hL.outer
  rw [zeroS_length] at h1
  obtain ⟨gv, cap, e, _⟩ := own_slot h1 hT
  injection e with e1 e2 e3
  subst e1 e2
  exact ⟨gv, rows, rfl, rfl, hb.alloc hN _, heap_alloc_new _ _, hL.alloc _, hN⟩
end Go.Proofs.Ytpnbkkpbgpcgiaa
