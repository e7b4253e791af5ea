/- Memory, continued: making, and writing into, rows of the call's own. -/
import Derived.Test.YtpnbkkpbgpcgiaaMem
import Derived.Deep.OwnRows
set_option linter.unusedSimpArgs false
set_option linter.unusedVariables false
namespace Go.Dw
open Go.RowKit

def mk0 (z : Value) (n : Nat) : Array Value := (List.replicate n z).toArray
theorem mk0_list (z : Value) (n : Nat) : (mk0 z n).toList = List.replicate n z := rfl
theorem mk0_size (z : Value) (n : Nat) : (mk0 z n).size = n := by simp [mk0]
theorem run_mk {P : Program} (t e : TypeId) (i : TypeInfo) (z : Value) (ht : P.underlying t = some (.slice e)) (hi : P.info? e = some i) (hz : i.zero = some z) (hsize : i.size = 1) (hz1 : z.cells = #[z]) (n : Nat) (hb : i.bytes * n ≤ 281474976710656) (h63 : n ≤ 9223372036854775807) (w : World) :
    (Instr.makeSlice t (.int .i64 n) (.int .i64 n)).run P w = .ok (.slice (some ⟨w.heap.size, 0, none⟩) n n) (w.alloc (.cells (mk0 z n) e)) := by
  have hb' : (i.bytes : Int) * (n : Int) ≤ 281474976710656 := by
    have h : ((i.bytes * n : Nat) : Int) ≤ 281474976710656 := by omega
    rwa [Int.natCast_mul] at h
  have hr := run_make (P := P) w t e i z ht hi hz .i64 .i64 n n (by omega) (Int.le_refl _) hb' (by omega)
  simp only [Int.toNat_natCast, hsize, Nat.mul_one, hz1] at hr
  rw [hr]
  have he : madeCells #[z] n = mk0 z n := by
    apply Array.ext'
    rw [toList_madeCells_one, mk0_list]
  rw [he]
theorem own_mk (w : World) (base : Nat) (e : TypeId) (z : Value) (n : Nat) (hb : base ≤ w.heap.size) (hn : n ≤ maxLen) : (w.alloc (.cells (mk0 z n) e)).ownsRow base e 1 (.slice (some ⟨w.heap.size, 0, none⟩) n n) n (List.replicate n z) :=
  ⟨by simp, .inr ⟨w.heap.size, n, mk0 z n, rfl, hb, heap_alloc_new w _, Nat.le_refl _, hn, by simp [mk0_size], by rw [mk0_list]; simp⟩⟩

theorem own_far {w : World} {base : Nat} {e : TypeId} {size : Nat} {v : Value} {n : Nat} {xs : List Value} (h : w.ownsRow base e size v n xs) {p : Addr} (hp : v.ownBlock = none ∨ v.ownBlock ≠ some p.block) (u : Value) : (w.setCell p u).ownsRow base e size v n xs := by
  refine ⟨h.1, ?_⟩
  rcases h.2 with h0 | ⟨g, cap, cur, rfl, hg, hh, r⟩
  · exact .inl h0
  · refine .inr ⟨g, cap, cur, rfl, hg, ?_, r⟩
    rw [Below.heap_setCell _ _ _ _ (by simpa [Value.ownBlock] using hp)]
    exact hh
theorem own_slot {w : World} {base : Nat} {e : TypeId} {v : Value} {n : Nat} {xs : List Value} (h : w.ownsRow base e 1 v n xs) (hn : 0 < n) : ∃ g cap, v = .slice (some ⟨g, 0, none⟩) n cap ∧ base ≤ g ∧ g < w.heap.size ∧ n ≤ cap ∧ cap ≤ maxLen ∧ (∀ j, j < n → w.cell? ⟨g, j, none⟩ = xs[j]? ∧ w.frozen? ⟨g, j, none⟩ = false) := by
  rcases h.2 with ⟨rfl, rfl⟩ | ⟨g, cap, cur, rfl, hb, hh, h1, h2, _⟩
  · omega
  · exact ⟨g, cap, rfl, hb, (Array.getElem?_eq_some_iff.1 hh).1, h1, h2, fun j hj => ⟨h.cellAt j (by omega), h.frozenAt j⟩⟩

theorem rowOf_set (xss : List (List Int)) (k j : Nat) (xs : List Int) (hk : k < xss.length) : rowOf (xss.set k xs) j = if j = k then xs else rowOf xss j := by
  unfold rowOf
  by_cases h : j = k
  · subst h; simp [List.getD, hk]
  · rw [if_neg h]
    simp [List.getD, List.getElem?_set_ne (Ne.symm h)]

/-- row k is replaced by a row that is new -/
theorem OwnRowsL.setRow {w0 w : World} {B : Nat} {g k cap n : Nat} {r : Value} {xss : List (List Int)} {xs : List Int} {rows : List Value} (h : OwnRowsL w0 B (.slice (some ⟨g, 0, none⟩) n cap) xss rows) (hb : Below w0.heap.size w0 w) (hB : B ≤ w0.heap.size)
    (hr : w.ownsRow w0.heap.size 3 1 r xs.length (xs.map (Value.int .i64))) (hk : k < xss.length) : OwnRowsL (w.setCell ⟨g, k, none⟩ r) B (.slice (some ⟨g, 0, none⟩) n cap) (xss.set k xs) (rows.set k r) := by
  have hl : rows.length = xss.length := by simpa using h.outer.1
  have hw := h.below hb
  have hn : n = xss.length := by
    obtain ⟨A, c, e, _, _⟩ := own_form h.outer
    injection e
  subst hn
  refine ⟨?_, fun j q hq => ?_, fun i j q q' hij hi hj => ?_⟩
  · rw [List.length_set]
    exact (hw.outer.stored k r).1
  · rw [rowOf_set _ _ _ _ hk]
    by_cases hjk : j = k
    · subst hjk
      rw [if_pos rfl]
      rw [List.getElem?_set_self (by omega)] at hq
      injection hq with hq
      subst hq
      exact own_far (p := ⟨g, j, none⟩) (own_base hr hB) (own_ne hr hw.outer (by decide)) _
    · rw [if_neg hjk]
      rw [List.getElem?_set_ne (Ne.symm hjk)] at hq
      exact own_far (p := ⟨g, k, none⟩) (hw.inner j q hq) (own_ne (hw.inner j q hq) hw.outer (by decide)) _
  · have new : ∀ (i : Nat) (q : Value), rows[i]? = some q → q.ownBlock = none ∨ (q.ownBlock ≠ r.ownBlock) := by
      intro i q hq
      cases e : q.ownBlock with
      | none => exact .inl rfl
      | some b =>
        refine .inr fun e' => ?_
        have h1 := own_lt (h.inner i q hq) e
        have h2 := own_lt hr e'.symm
        omega
    by_cases hik : i = k
    · subst hik
      rw [List.getElem?_set_self (by omega)] at hi
      injection hi with hi
      subst hi
      rw [List.getElem?_set_ne (by omega)] at hj
      rcases new j q' hj with h1 | h1
      · cases e : r.ownBlock with
        | none => exact .inl rfl
        | some b => rw [h1]; exact .inr (by simp)
      · exact .inr (Ne.symm h1)
    · rw [List.getElem?_set_ne (Ne.symm hik)] at hi
      by_cases hjk : j = k
      · subst hjk
        rw [List.getElem?_set_self (by omega)] at hj
        injection hj with hj
        subst hj
        exact new i q hi
      · rw [List.getElem?_set_ne (Ne.symm hjk)] at hj
        exact h.apart i j q q' hij hi hj

/-- element j of row k is written -/
theorem OwnRowsL.setEl {w : World} {B : Nat} {v : Value} {k j b cap m : Nat} {y : Int} {xss : List (List Int)} {rows : List Value} (h : OwnRowsL w B v xss rows) (hr : rows[k]? = some (.slice (some ⟨b, 0, none⟩) m cap)) :
    OwnRowsL (w.setCell ⟨b, j, none⟩ (.int .i64 y)) B v (xss.set k ((rowOf xss k).set j y)) rows := by
  have hl : rows.length = xss.length := by simpa using h.outer.1
  have hk : k < xss.length := by have := (List.getElem?_eq_some_iff.1 hr).1; omega
  have hin := h.inner k _ hr
  have hm : m = (rowOf xss k).length := by
    obtain ⟨A, c, e, _, _⟩ := own_form hin
    injection e
  subst hm
  refine ⟨?_, fun i q hq => ?_, h.apart⟩
  · rw [List.length_set]
    refine own_far (p := ⟨b, j, none⟩) h.outer ?_ _
    rcases own_ne h.outer hin (by decide) with h1 | h1
    · exact .inl h1
    · exact .inr (by simpa [Value.ownBlock] using h1)
  · rw [rowOf_set _ _ _ _ hk]
    by_cases hik : i = k
    · subst hik
      rw [if_pos rfl]
      rw [hr] at hq
      injection hq with hq
      subst hq
      have := (hin.stored j (.int .i64 y)).1
      rw [List.length_set, List.map_set]
      exact this
    · rw [if_neg hik]
      refine own_far (p := ⟨b, j, none⟩) (h.inner i q hq) ?_ _
      rcases Nat.lt_or_gt_of_ne hik with hlt | hlt
      · rcases h.apart i k q _ hlt hq hr with h1 | h1
        · exact .inl h1
        · exact .inr (by simpa [Value.ownBlock] using h1)
      · rcases h.apart k i _ q hlt hr hq with h1 | h1
        · simp [Value.ownBlock] at h1
        · exact .inr (by simpa [Value.ownBlock] using Ne.symm h1)
/-- an outer row of zeros: all rows nil -/
theorem OwnRowsL.nils (w : World) (B n : Nat) (hB : B ≤ w.heap.size) (hn : n ≤ maxLen) : OwnRowsL (w.alloc (.cells (mk0 (.slice none 0 0) n) 30)) B (.slice (some ⟨w.heap.size, 0, none⟩) n n) (List.replicate n []) (List.replicate n (.slice none 0 0)) := by
  refine ⟨by simpa using own_mk w B 30 (.slice none 0 0) n hB hn, fun k r hr => ?_, fun i j r r' _ hr _ => ?_⟩
  · have hk : k < n := by have := (List.getElem?_eq_some_iff.1 hr).1; simpa using this
    obtain rfl : Value.slice none 0 0 = r := by simpa [hk] using hr
    have : rowOf (List.replicate n []) k = [] := by simp [rowOf, List.getD, hk]
    rw [this]
    exact World.ownsRow_nil _ _ _ _
  · have hk : i < n := by have := (List.getElem?_eq_some_iff.1 hr).1; simpa using this
    obtain rfl : Value.slice none 0 0 = r := by simpa [hk] using hr
    exact .inl rfl
theorem OwnRowsL.row {w : World} {B : Nat} {v : Value} {xss : List (List Int)} {rows : List Value} (h : OwnRowsL w B v xss rows) {k : Nat} (hk : k < xss.length) : ∃ r, rows[k]? = some r ∧ w.ownsRow B 3 1 r (rowOf xss k).length ((rowOf xss k).map (Value.int .i64)) := by
  have hl : rows.length = xss.length := by simpa using h.outer.1
  exact ⟨rows[k]'(by omega), List.getElem?_eq_getElem (by omega), h.inner k _ (List.getElem?_eq_getElem (by omega))⟩
theorem heap3 (w : World) (A B C : Obj) : (((w.alloc A).alloc B).alloc C).heap[w.heap.size]? = some A ∧ (((w.alloc A).alloc B).alloc C).heap[w.heap.size + 1]? = some B ∧ (((w.alloc A).alloc B).alloc C).heap[w.heap.size + 1 + 1]? = some C := by
  have h1 : (w.alloc A).heap.size = w.heap.size + 1 := by simp
  have h2 : ((w.alloc A).alloc B).heap.size = w.heap.size + 1 + 1 := by simp
  refine ⟨?_, ?_, ?_⟩
  · rw [Below.heap_alloc _ _ _ (by omega), Below.heap_alloc _ _ _ (by omega)]; exact heap_alloc_new _ _
  · rw [Below.heap_alloc _ _ _ (by omega), ← h1]; exact heap_alloc_new _ _
  · rw [← h2]; exact heap_alloc_new _ _
theorem OwnRowsL.alloc {w : World} {B : Nat} {v : Value} {xss : List (List Int)} {rows : List Value} (h : OwnRowsL w B v xss rows) (o : Obj) : OwnRowsL (w.alloc o) B v xss rows := h.below ((Below.refl _ _).alloc (Nat.le_refl _) o)
theorem OwnRowsL.drew {w : World} {B : Nat} {v : Value} {xss : List (List Int)} {rows : List Value} (h : OwnRowsL w B v xss rows) : OwnRowsL w.drew B v xss rows := ⟨h.outer, h.inner, h.apart⟩
theorem OwnRowsL.far {w : World} {B : Nat} {v : Value} {xss : List (List Int)} {rows : List Value} (h : OwnRowsL w B v xss rows) {p : Addr} (hp : p.block < B) (u : Value) : OwnRowsL (w.setCell p u) B v xss rows := h.set_below hp u
/-- a block of another element type is not that of an owned row -/
theorem own_ne_blk {w : World} {b : Nat} {e t : TypeId} {s : Nat} {v : Value} {n : Nat} {xs : List Value} {g : Nat} {cs : Array Value} {fr : Nat × Nat} (h : w.ownsRow b e s v n xs) (hg : w.heap[g]? = some (.cells cs t fr)) (hne : e ≠ t) : v.ownBlock ≠ some g := by
  intro he
  rcases h.2 with ⟨rfl, _⟩ | ⟨g', cap, cur, rfl, _, hh, _⟩
  · cases he
  · simp only [Value.ownBlock, Option.some.injEq] at he
    subst he
    rw [hh] at hg
    injection hg with hg
    injection hg with _ ht
    exact hne ht
/-- two cells of a block written -/
theorem heap_set2 {w : World} {g : Nat} {o0 o1 v0 v1 : Value} {t : TypeId} (h : w.heap[g]? = some (.cells #[o0, o1] t (0, 0))) : ((w.setCell ⟨g, 0, none⟩ v0).setCell ⟨g, 1, none⟩ v1).heap[g]? = some (.cells #[v0, v1] t (0, 0)) :=
  heap_setCell_same _ g 1 _ t v1 (heap_setCell_same w g 0 _ t v0 h)
theorem OwnRowsL.set_far {w : World} {B : Nat} {v : Value} {xss : List (List Int)} {rows : List Value} (h : OwnRowsL w B v xss rows) {g : Nat} {cs : Array Value} {t : TypeId} {fr : Nat × Nat} (hg : w.heap[g]? = some (.cells cs t fr)) (h1 : 30 ≠ t) (h2 : 3 ≠ t) (j : Nat) (u : Value) : OwnRowsL (w.setCell ⟨g, j, none⟩ u) B v xss rows :=
  ⟨own_far (p := ⟨g, j, none⟩) h.outer (.inr (own_ne_blk h.outer hg h1)) u, fun k r hr => own_far (p := ⟨g, j, none⟩) (h.inner k r hr) (.inr (own_ne_blk (h.inner k r hr) hg h2)) u, h.apart⟩
theorem OwnRowsL.set2_far {w : World} {B : Nat} {v : Value} {xss : List (List Int)} {rows : List Value} (h : OwnRowsL w B v xss rows) {g : Nat} {o0 o1 : Value} {t : TypeId} (hg : w.heap[g]? = some (.cells #[o0, o1] t (0, 0))) (h1 : 30 ≠ t) (h2 : 3 ≠ t) (u0 u1 : Value) : OwnRowsL ((w.setCell ⟨g, 0, none⟩ u0).setCell ⟨g, 1, none⟩ u1) B v xss rows :=
  (h.set_far hg h1 h2 0 u0).set_far (heap_setCell_same w g 0 _ t u0 hg) h1 h2 1 u1
theorem OwnRowsL.kept {w w' : World} {B : Nat} {v : Value} {xss : List (List Int)} {rows : List Value} {row : Option Nat} (h : OwnRowsL w B v xss rows) (hg : w.grownBy w' row) (hr : ∀ k, row = some k → k < B) : OwnRowsL w' B v xss rows := by
  have ne : ∀ {e : TypeId} {q : Value} {n : Nat} {xs : List Value}, w.ownsRow B e 1 q n xs → q.ownBlock = none ∨ q.ownBlock ≠ row := by
    intro e q n xs hq
    cases hb : q.ownBlock with
    | none => exact .inl rfl
    | some b =>
      refine .inr fun e => ?_
      have := own_lt hq hb
      have := hr b e.symm
      omega
  exact ⟨h.outer.kept hg (ne h.outer), fun k r hk => (h.inner k r hk).kept hg (ne (h.inner k r hk)), h.apart⟩
theorem grownBy_below {a w : World} (h : Below a.heap.size a w) (row : Option Nat) : a.grownBy w row := ⟨h.os, h.tape, h.output, h.size, fun i hi _ => h.block i hi⟩
theorem grownBy_trans {a b c : World} {row : Option Nat} (h : a.grownBy b row) (k : b.grownBy c row) : a.grownBy c row := h.trans k
theorem grownBy_set {a w : World} {row : Option Nat} (h : a.grownBy w row) {p : Addr} (hp : a.heap.size ≤ p.block) (u : Value) : a.grownBy (w.setCell p u) row :=
  ⟨h.os, h.tape, h.output, by simpa [World.setCell] using h.size, fun i hi hne => (Below.heap_setCell w p u i (by omega)).trans (h.block i hi hne)⟩
theorem grownBy_drew {a w : World} {row : Option Nat} (h : a.grownBy w row) : a.grownBy w.drew row := ⟨h.os, h.tape, h.output, h.size, h.block⟩
theorem grownBy_undrew {a w : World} {row : Option Nat} (h : a.drew.grownBy w row) : a.grownBy w row := ⟨h.os, h.tape, h.output, h.size, h.block⟩
theorem grown_below {a w : World} {row : Option Nat} {B : Nat} (h : a.grownBy w row) (hB : B ≤ a.heap.size) (hr : ∀ k, row = some k → B ≤ k) : Below B a w := (Below.refl B a).grown h hB hr
end Go.Dw
