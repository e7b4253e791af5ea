/- clock.TickOf. -/
import Derived.Test.YthgjgiccoobcgaaGreatDoorBof
import Derived.Test.YthgjgiccoobcgaaGreatDoorShelf
import Derived.Deep.CutBlock
import Derived.Deep.CutRange
set_option linter.unusedSimpArgs false
set_option linter.unusedVariables false
namespace Go.Proofs.YthgjgiccoobcgaaGreatDoor
open Go.RowKit Go.Dw Go.Joins
/-- a text in its parts -/
def Parts (s : ByteArray) (P : List ByteArray) : Prop := P.length = Lib.count s.data.toList [46] + 1 ∧ P.map (·.data.toList) = Lib.splitK [46] 0 (Lib.count s.data.toList [46]) s.data.toList
theorem SPLIT_any (s : ByteArray) (m : Int) (hs : s.size ≤ 1048576) (w : World) (hm : Hid (w.cell? ⟨0, 0, none⟩ = some (.int .i64 m))) :
    Calls Tryz.prog 39 #[.string s, .string ⟨#[46]⟩] w fun e w' => ∃ (g k : Nat) (P : List ByteArray), e = .returned (.slice (some ⟨g, 0, none⟩) k k) ∧ P.length = k ∧ Hid (Parts s P) ∧ Hid (w'.heap[g]? = some (.cells (P.map Value.string).toArray 9 (0, 0))) ∧ Hid (Below w.heap.size w w') := by
  refine (Tryz.strings_Split s ⟨#[46]⟩ m w (by omega) hm.out (by decide)).mono ?_
  rintro e w' ⟨rfl, rfl⟩
  have hl := Lib.splitB_all ⟨#[46]⟩ (by decide) 0 (Lib.countB s ⟨#[46]⟩) s rfl
  exact ⟨_, _, _, rfl, hl, ⟨hl, Lib.splitB_data _ _ _ _⟩, heap_alloc_new _ _, (Below.refl _ _).alloc (Nat.le_refl _) _⟩
theorem parts3 {s : ByteArray} {P : List ByteArray} (h : Parts s P) (h3 : P.length = 3) : ∃ p0 p1 p2, P = [p0, p1, p2] ∧ Lib.count s.data.toList [46] = 2 ∧ Lib.splitK [46] 0 2 s.data.toList = [p0.data.toList, p1.data.toList, p2.data.toList] := by
  obtain ⟨h1, h2⟩ := h
  have hc : Lib.count s.data.toList [46] = 2 := by omega
  rw [hc] at h2
  match P, h3 with
  | [p0, p1, p2], _ => exact ⟨p0, p1, p2, rfl, hc, h2.symm⟩
theorem parts_not3 {s : ByteArray} {P : List ByteArray} (h : Parts s P) (h3 : P.length ≠ 3) {ms : List Pr} (hm : MetOk ms) : TickP ms s.data.toList (0, 10) := by
  refine .inr ⟨rfl, fun t h0 h1 e => ?_⟩
  have := (bar_parts hm h0 h1 e).1
  have := h.1
  omega
/-- three cells -/
theorem tri_cells {w : World} {g : Nat} {v0 v1 v2 : Value} {T : TypeId} (h : w.heap[g]? = some (.cells #[v0, v1, v2] T (0, 0))) : w.cell? ⟨g, 0, none⟩ = some v0 ∧ w.cell? ⟨g, 1, none⟩ = some v1 ∧ w.cell? ⟨g, 2, none⟩ = some v2 ∧ w.frozen? ⟨g, 0, none⟩ = false ∧ w.frozen? ⟨g, 1, none⟩ = false ∧ w.frozen? ⟨g, 2, none⟩ = false := by
  have h0 := own_cell1 h 0
  have h1 := own_cell1 h 1
  have h2 := own_cell1 h 2
  simp only [List.getElem?_toArray, List.getElem?_cons_zero, List.getElem?_cons_succ] at h0 h1 h2
  exact ⟨h0, h1, h2, frozen_of_row w g 0 _ _ h, frozen_of_row w g 1 _ _ h, frozen_of_row w g 2 _ _ h⟩
theorem tri_set {w : World} {g j : Nat} {v0 v1 v2 v : Value} {T : TypeId} (h : w.heap[g]? = some (.cells #[v0, v1, v2] T (0, 0))) : (w.setCell ⟨g, j, none⟩ v).heap[g]? = some (.cells (#[v0, v1, v2].setIfInBounds j v) T (0, 0)) := by
  simp only [World.setCell, Array.getElem?_modify, h]
  simp
theorem good_size {p : ByteArray} (h : GoodD p.data.toList) : 0 < p.size := by
  rw [← len_data]
  rcases h.2 with e | ⟨c, r, e, _⟩ <;> rw [e] <;> simp
/-- eleven digits at most -/
theorem decV_lt : ∀ (n : Nat) (l : List UInt8), l.length ≤ n → AllDig l → decV l < 10 ^ n
  | 0, l, hl, _ => by
    have : l = [] := List.eq_nil_of_length_eq_zero (by omega)
    subst this; simp [decV]
  | n + 1, l, hl, hd => by
    rcases List.eq_nil_or_concat l with rfl | ⟨i, z, rfl⟩
    · simp [decV]; exact Nat.pow_pos (by omega)
    · rw [List.concat_eq_append] at *
      have ih := decV_lt n i (by simp at hl; omega) (fun c hc => hd c (List.mem_append_left _ hc))
      have hz := hd z (by simp)
      rw [decV_snoc, Nat.pow_succ]
      omega
/-- what TickOf leaves -/
def TickOut (l ms : List Pr) (txt : List UInt8) (w : World) (e : Ending) (w' : World) : Prop := ∃ z : Int × Int, e = .returned (.tuple #[.int .i64 z.1, .int .i64 z.2]) ∧ TickS l ms txt z ∧ Below w.heap.size w w'
theorem split_le : ∀ (k : Nat) (l : List UInt8), ∀ p ∈ Lib.splitK [46] 0 k l, p.length ≤ l.length
  | 0, l, p, h => by simp [Lib.splitK] at h; subst h; exact Nat.le_refl _
  | k + 1, l, p, h => by
    unfold Lib.splitK at h
    split at h
    · simp at h; subst h; exact Nat.le_refl _
    · rw [List.mem_cons] at h
      rcases h with rfl | h
      · rw [List.length_take]; omega
      · have := split_le k _ p h
        rw [List.length_drop] at this; omega
theorem posC_step {ms : List Pr} {b E : Int} {k : Nat} (hE : (if k + 1 < ms.length then min b (prOf ms (k + 1)).1 else b) = E) (h : ¬ E ≤ (prOf ms k).1) : posC ms b (k + 1) = posC ms b k + (E - (prOf ms k).1) * (prOf ms k).2 * 960 := by
  show posC ms b k + (if (if k + 1 < ms.length then min b (prOf ms (k + 1)).1 else b) ≤ (prOf ms k).1 then 0 else ((if k + 1 < ms.length then min b (prOf ms (k + 1)).1 else b) - (prOf ms k).1) * (prOf ms k).2 * 960) = _
  rw [hE, if_neg h]
end Go.Proofs.YthgjgiccoobcgaaGreatDoor
