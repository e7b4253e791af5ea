/- Fade on the sound's side, where all is right. -/
import Derived.Test.YtnhmhjhfoonakaaFade1
import Derived.Test.YtnhmhjhfoonakaaRev2
import Derived.Test.YtnhmhjhfoonakaaNear
import Derived.Test.YtnhmhjhfoonakaaRegion
set_option linter.unusedSimpArgs false
set_option linter.unusedVariables false
namespace Go.Proofs.Ytnhmhjhfoonakaa
open Go.RowKit Go.Dw
attribute [local go_sem ↓] Go.wp_at_zero Go.wp_at_succ

theorem fill_elem {N : Nat} {W : World} {g : Nat} {o0 : Value} {gv n cV : Nat} {rows : List Value} {wr : World} {yss : List (List Int)} {k b m cap j : Nat} (h : FillI N W g o0 gv n cV rows wr yss) (hr : rows[k]? = some (.slice (some ⟨b, 0, none⟩) m cap)) (hj : j < m) :
    wr.cell? ⟨b, j, none⟩ = some (.int .i64 (elOf (rowOf yss k) j)) := by
  have hin := h.own.inner k _ hr
  have hm : m = (rowOf yss k).length := by
    obtain ⟨A, c, e, _, _⟩ := own_form hin
    injection e
  subst hm
  refine (hin.cellAt j (by omega)).trans ?_
  rw [List.getElem?_map, List.getElem?_eq_getElem hj, elOf_lt hj]; rfl
theorem fill_slice {N : Nat} {W : World} {g : Nat} {o0 : Value} {gv n cV : Nat} {rows : List Value} {wr : World} {yss : List (List Int)} {k m : Nat} (h : FillI N W g o0 gv n cV rows wr yss) (hk : k < yss.length) (hm : (rowOf yss k).length = m) :
    ∃ A cap, rows[k]? = some (.slice A m cap) ∧ m ≤ cap ∧ cap ≤ maxLen ∧ (0 < m → ∃ b, A = some ⟨b, 0, none⟩) := by
  obtain ⟨r, h1, h2⟩ := h.own.row hk
  rw [hm] at h2
  obtain ⟨A, cap, rfl, h3, h4⟩ := own_form h2
  refine ⟨A, cap, h1, h3, h4, fun h0 => ?_⟩
  obtain ⟨b, cap', e, _⟩ := own_slot h2 h0
  exact ⟨b, by injection e⟩

end Go.Proofs.Ytnhmhjhfoonakaa
