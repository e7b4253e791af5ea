/- Memory, continued: making, and writing into, rows of the call's own. -/
import Derived.Test.YtnhmhjhfoonakaaMem
import Derived.Deep.OwnRows
import Derived.Test.YtnhmhjhfoonakaaWb
import Derived.Test.YtnhmhjhfoonakaaRegion
import Derived.Test.YtnhmhjhfoonakaaWa
import Derived.Deep.DeepCutAuto
import Derived.Deep.RegionHeld3
import Derived.Deep.DrawnRows
set_option linter.unusedSimpArgs false
set_option linter.unusedVariables false
namespace Go.Dw
open Go.RowKit

def mk0 (z : Value) (n : Nat) : Array Value := (List.replicate n z).toArray
theorem mk0_list (z : Value) (n : Nat) : (mk0 z n).toList = List.replicate n z := rfl
theorem mk0_size (z : Value) (n : Nat) : (mk0 z n).size = n := by simp [mk0]
theorem run_mk {P : Program} (t e : TypeId) (i : TypeInfo) (z : Value) (ht : P.underlying t = some (.slice e)) (hi : P.info? e = some i) (hz : i.zero = some z) (hsize : i.size = 1) (hz1 : z.cells = #[z]) (n : Nat) (hb : i.bytes * n ≤ 281474976710656) (h63 : n ≤ 9223372036854775807) (w : World) :
    (Instr.makeSlice t (.int .i64 n) (.int .i64 n)).run P w = .ok (.slice (some ⟨w.heap.size, 0, none⟩) n n) (w.alloc (.cells (mk0 z n) e)) := by
  have hb' : (i.bytes : Int) * (n : Int) ≤ 281474976710656 := by
    have h : ((i.bytes * n : Nat) : Int) ≤ 281474976710656 := by omega
    rwa [Int.natCast_mul] at h
  have hr := run_make (P := P) w t e i z ht hi hz .i64 .i64 n n (by omega) (Int.le_refl _) hb' (by omega)
  simp only [Int.toNat_natCast, hsize, Nat.mul_one, hz1] at hr
  rw [hr]
  have he : madeCells #[z] n = mk0 z n := by
    apply Array.ext'
    rw [toList_madeCells_one, mk0_list]
  rw [he]
theorem own_mk (w : World) (base : Nat) (e : TypeId) (z : Value) (n : Nat) (hb : base ≤ w.heap.size) (hn : n ≤ maxLen) : (w.alloc (.cells (mk0 z n) e)).ownsRow base e 1 (.slice (some ⟨w.heap.size, 0, none⟩) n n) n (List.replicate n z) :=
  ⟨by simp, .inr ⟨w.heap.size, n, mk0 z n, rfl, hb, heap_alloc_new w _, Nat.le_refl _, hn, by simp [mk0_size], by rw [mk0_list]; simp⟩⟩

theorem own_far {w : World} {base : Nat} {e : TypeId} {size : Nat} {v : Value} {n : Nat} {xs : List Value} (h : w.ownsRow base e size v n xs) {p : Addr} (hp : v.ownBlock = none ∨ v.ownBlock ≠ some p.block) (u : Value) : (w.setCell p u).ownsRow base e size v n xs := by
  refine ⟨h.1, ?_⟩
  rcases h.2 with h0 | ⟨g, cap, cur, rfl, hg, hh, r⟩
  · exact .inl h0
  · refine .inr ⟨g, cap, cur, rfl, hg, ?_, r⟩
    rw [Below.heap_setCell _ _ _ _ (by simpa [Value.ownBlock] using hp)]
    exact hh
theorem own_slot {w : World} {base : Nat} {e : TypeId} {v : Value} {n : Nat} {xs : List Value} (h : w.ownsRow base e 1 v n xs) (hn : 0 < n) : ∃ g cap, v = .slice (some ⟨g, 0, none⟩) n cap ∧ base ≤ g ∧ g < w.heap.size ∧ n ≤ cap ∧ cap ≤ maxLen ∧ (∀ j, j < n → w.cell? ⟨g, j, none⟩ = xs[j]? ∧ w.frozen? ⟨g, j, none⟩ = false) := by
  rcases h.2 with ⟨rfl, rfl⟩ | ⟨g, cap, cur, rfl, hb, hh, h1, h2, _⟩
  · omega
  · exact ⟨g, cap, rfl, hb, (Array.getElem?_eq_some_iff.1 hh).1, h1, h2, fun j hj => ⟨h.cellAt j (by omega), h.frozenAt j⟩⟩

theorem rowOf_set (xss : List (List Int)) (k j : Nat) (xs : List Int) (hk : k < xss.length) : rowOf (xss.set k xs) j = if j = k then xs else rowOf xss j := by
  unfold rowOf
  by_cases h : j = k
  · subst h; simp [List.getD, hk]
  · rw [if_neg h]
    simp [List.getD, List.getElem?_set_ne (Ne.symm h)]

/-- row k is replaced by a row that is new -/
theorem OwnRowsL.setRow {w0 w : World} {B : Nat} {g k cap n : Nat} {r : Value} {xss : List (List Int)} {xs : List Int} {rows : List Value} (h : OwnRowsL w0 B (.slice (some ⟨g, 0, none⟩) n cap) xss rows) (hb : Below w0.heap.size w0 w) (hB : B ≤ w0.heap.size)
    (hr : w.ownsRow w0.heap.size 3 1 r xs.length (xs.map (Value.int .i64))) (hk : k < xss.length) : OwnRowsL (w.setCell ⟨g, k, none⟩ r) B (.slice (some ⟨g, 0, none⟩) n cap) (xss.set k xs) (rows.set k r) := by
  have hl : rows.length = xss.length := by simpa using h.outer.1
  have hw := h.below hb
  have hn : n = xss.length := by
    obtain ⟨A, c, e, _, _⟩ := own_form h.outer
    injection e
  subst hn
  refine ⟨?_, fun j q hq => ?_, fun i j q q' hij hi hj => ?_⟩
  · rw [List.length_set]
    exact (hw.outer.stored k r).1
  · rw [rowOf_set _ _ _ _ hk]
    by_cases hjk : j = k
    · subst hjk
      rw [if_pos rfl]
      rw [List.getElem?_set_self (by omega)] at hq
      injection hq with hq
      subst hq
      exact own_far (p := ⟨g, j, none⟩) (own_base hr hB) (own_ne hr hw.outer (by decide)) _
    · rw [if_neg hjk]
      rw [List.getElem?_set_ne (Ne.symm hjk)] at hq
      exact own_far (p := ⟨g, k, none⟩) (hw.inner j q hq) (own_ne (hw.inner j q hq) hw.outer (by decide)) _
  · have new : ∀ (i : Nat) (q : Value), rows[i]? = some q → q.ownBlock = none ∨ (q.ownBlock ≠ r.ownBlock) := by
      intro i q hq
      cases e : q.ownBlock with
      | none => exact .inl rfl
      | some b =>
        refine .inr fun e' => ?_
        have h1 := own_lt (h.inner i q hq) e
        have h2 := own_lt hr e'.symm
        omega
    by_cases hik : i = k
    · subst hik
      rw [List.getElem?_set_self (by omega)] at hi
      injection hi with hi
      subst hi
      rw [List.getElem?_set_ne (by omega)] at hj
      rcases new j q' hj with h1 | h1
      · cases e : r.ownBlock with
        | none => exact .inl rfl
        | some b => rw [h1]; exact .inr (by simp)
      · exact .inr (Ne.symm h1)
    · rw [List.getElem?_set_ne (Ne.symm hik)] at hi
      by_cases hjk : j = k
      · subst hjk
        rw [List.getElem?_set_self (by omega)] at hj
        injection hj with hj
        subst hj
        exact new i q hi
      · rw [List.getElem?_set_ne (Ne.symm hjk)] at hj
        exact h.apart i j q q' hij hi hj

/-- element j of row k is written -/
theorem OwnRowsL.setEl {w : World} {B : Nat} {v : Value} {k j b cap m : Nat} {y : Int} {xss : List (List Int)} {rows : List Value} (h : OwnRowsL w B v xss rows) (hr : rows[k]? = some (.slice (some ⟨b, 0, none⟩) m cap)) :
    OwnRowsL (w.setCell ⟨b, j, none⟩ (.int .i64 y)) B v (xss.set k ((rowOf xss k).set j y)) rows := by
  have hl : rows.length = xss.length := by simpa using h.outer.1
  have hk : k < xss.length := by have := (List.getElem?_eq_some_iff.1 hr).1; omega
  have hin := h.inner k _ hr
  have hm : m = (rowOf xss k).length := by
    obtain ⟨A, c, e, _, _⟩ := own_form hin
    injection e
  subst hm
  refine ⟨?_, fun i q hq => ?_, h.apart⟩
  · rw [List.length_set]
    refine own_far (p := ⟨b, j, none⟩) h.outer ?_ _
    rcases own_ne h.outer hin (by decide) with h1 | h1
    · exact .inl h1
    · exact .inr (by simpa [Value.ownBlock] using h1)
  · rw [rowOf_set _ _ _ _ hk]
    by_cases hik : i = k
    · subst hik
      rw [if_pos rfl]
      rw [hr] at hq
      injection hq with hq
      subst hq
      have := (hin.stored j (.int .i64 y)).1
      rw [List.length_set, List.map_set]
      exact this
    · rw [if_neg hik]
      refine own_far (p := ⟨b, j, none⟩) (h.inner i q hq) ?_ _
      rcases Nat.lt_or_gt_of_ne hik with hlt | hlt
      · rcases h.apart i k q _ hlt hq hr with h1 | h1
        · exact .inl h1
        · exact .inr (by simpa [Value.ownBlock] using h1)
      · rcases h.apart k i _ q hlt hr hq with h1 | h1
        · simp [Value.ownBlock] at h1
        · exact .inr (by simpa [Value.ownBlock] using Ne.symm h1)
/-- an outer row of zeros: all rows nil -/
theorem OwnRowsL.nils (w : World) (B n : Nat) (hB : B ≤ w.heap.size) (hn : n ≤ maxLen) : OwnRowsL (w.alloc (.cells (mk0 (.slice none 0 0) n) 54)) B (.slice (some ⟨w.heap.size, 0, none⟩) n n) (List.replicate n []) (List.replicate n (.slice none 0 0)) := by
  refine ⟨by simpa using own_mk w B 54 (.slice none 0 0) n hB hn, fun k r hr => ?_, fun i j r r' _ hr _ => ?_⟩
  · have hk : k < n := by have := (List.getElem?_eq_some_iff.1 hr).1; simpa using this
    obtain rfl : Value.slice none 0 0 = r := by simpa [hk] using hr
    have : rowOf (List.replicate n []) k = [] := by simp [rowOf, List.getD, hk]
    rw [this]
    exact World.ownsRow_nil _ _ _ _
  · have hk : i < n := by have := (List.getElem?_eq_some_iff.1 hr).1; simpa using this
    obtain rfl : Value.slice none 0 0 = r := by simpa [hk] using hr
    exact .inl rfl
theorem OwnRowsL.row {w : World} {B : Nat} {v : Value} {xss : List (List Int)} {rows : List Value} (h : OwnRowsL w B v xss rows) {k : Nat} (hk : k < xss.length) : ∃ r, rows[k]? = some r ∧ w.ownsRow B 3 1 r (rowOf xss k).length ((rowOf xss k).map (Value.int .i64)) := by
  have hl : rows.length = xss.length := by simpa using h.outer.1
  exact ⟨rows[k]'(by omega), List.getElem?_eq_getElem (by omega), h.inner k _ (List.getElem?_eq_getElem (by omega))⟩
theorem heap3 (w : World) (A B C : Obj) : (((w.alloc A).alloc B).alloc C).heap[w.heap.size]? = some A ∧ (((w.alloc A).alloc B).alloc C).heap[w.heap.size + 1]? = some B ∧ (((w.alloc A).alloc B).alloc C).heap[w.heap.size + 1 + 1]? = some C := by
  have h1 : (w.alloc A).heap.size = w.heap.size + 1 := by simp
  have h2 : ((w.alloc A).alloc B).heap.size = w.heap.size + 1 + 1 := by simp
  refine ⟨?_, ?_, ?_⟩
  · rw [Below.heap_alloc _ _ _ (by omega), Below.heap_alloc _ _ _ (by omega)]; exact heap_alloc_new _ _
  · rw [Below.heap_alloc _ _ _ (by omega), ← h1]; exact heap_alloc_new _ _
  · rw [← h2]; exact heap_alloc_new _ _
theorem OwnRowsL.alloc {w : World} {B : Nat} {v : Value} {xss : List (List Int)} {rows : List Value} (h : OwnRowsL w B v xss rows) (o : Obj) : OwnRowsL (w.alloc o) B v xss rows := h.below ((Below.refl _ _).alloc (Nat.le_refl _) o)
theorem OwnRowsL.drew {w : World} {B : Nat} {v : Value} {xss : List (List Int)} {rows : List Value} (h : OwnRowsL w B v xss rows) : OwnRowsL w.drew B v xss rows := ⟨h.outer, h.inner, h.apart⟩
theorem OwnRowsL.far {w : World} {B : Nat} {v : Value} {xss : List (List Int)} {rows : List Value} (h : OwnRowsL w B v xss rows) {p : Addr} (hp : p.block < B) (u : Value) : OwnRowsL (w.setCell p u) B v xss rows := h.set_below hp u
/-- a block of another element type is not that of an owned row -/
theorem own_ne_blk {w : World} {b : Nat} {e t : TypeId} {s : Nat} {v : Value} {n : Nat} {xs : List Value} {g : Nat} {cs : Array Value} {fr : Nat × Nat} (h : w.ownsRow b e s v n xs) (hg : w.heap[g]? = some (.cells cs t fr)) (hne : e ≠ t) : v.ownBlock ≠ some g := by
  intro he
  rcases h.2 with ⟨rfl, _⟩ | ⟨g', cap, cur, rfl, _, hh, _⟩
  · cases he
  · simp only [Value.ownBlock, Option.some.injEq] at he
    subst he
    rw [hh] at hg
    injection hg with hg
    injection hg with _ ht
    exact hne ht
/-- two cells of a block written -/
theorem heap_set2 {w : World} {g : Nat} {o0 o1 v0 v1 : Value} {t : TypeId} (h : w.heap[g]? = some (.cells #[o0, o1] t (0, 0))) : ((w.setCell ⟨g, 0, none⟩ v0).setCell ⟨g, 1, none⟩ v1).heap[g]? = some (.cells #[v0, v1] t (0, 0)) :=
  heap_setCell_same _ g 1 _ t v1 (heap_setCell_same w g 0 _ t v0 h)
theorem OwnRowsL.set_far {w : World} {B : Nat} {v : Value} {xss : List (List Int)} {rows : List Value} (h : OwnRowsL w B v xss rows) {g : Nat} {cs : Array Value} {t : TypeId} {fr : Nat × Nat} (hg : w.heap[g]? = some (.cells cs t fr)) (h1 : 54 ≠ t) (h2 : 3 ≠ t) (j : Nat) (u : Value) : OwnRowsL (w.setCell ⟨g, j, none⟩ u) B v xss rows :=
  ⟨own_far (p := ⟨g, j, none⟩) h.outer (.inr (own_ne_blk h.outer hg h1)) u, fun k r hr => own_far (p := ⟨g, j, none⟩) (h.inner k r hr) (.inr (own_ne_blk (h.inner k r hr) hg h2)) u, h.apart⟩
theorem OwnRowsL.set2_far {w : World} {B : Nat} {v : Value} {xss : List (List Int)} {rows : List Value} (h : OwnRowsL w B v xss rows) {g : Nat} {o0 o1 : Value} {t : TypeId} (hg : w.heap[g]? = some (.cells #[o0, o1] t (0, 0))) (h1 : 54 ≠ t) (h2 : 3 ≠ t) (u0 u1 : Value) : OwnRowsL ((w.setCell ⟨g, 0, none⟩ u0).setCell ⟨g, 1, none⟩ u1) B v xss rows :=
  (h.set_far hg h1 h2 0 u0).set_far (heap_setCell_same w g 0 _ t u0 hg) h1 h2 1 u1
theorem OwnRowsL.kept {w w' : World} {B : Nat} {v : Value} {xss : List (List Int)} {rows : List Value} {row : Option Nat} (h : OwnRowsL w B v xss rows) (hg : w.grownBy w' row) (hr : ∀ k, row = some k → k < B) : OwnRowsL w' B v xss rows := by
  have ne : ∀ {e : TypeId} {q : Value} {n : Nat} {xs : List Value}, w.ownsRow B e 1 q n xs → q.ownBlock = none ∨ q.ownBlock ≠ row := by
    intro e q n xs hq
    cases hb : q.ownBlock with
    | none => exact .inl rfl
    | some b =>
      refine .inr fun e => ?_
      have := own_lt hq hb
      have := hr b e.symm
      omega
  exact ⟨h.outer.kept hg (ne h.outer), fun k r hk => (h.inner k r hk).kept hg (ne (h.inner k r hk)), h.apart⟩
theorem grownBy_below {a w : World} (h : Below a.heap.size a w) (row : Option Nat) : a.grownBy w row := ⟨h.os, h.tape, h.output, h.size, fun i hi _ => h.block i hi⟩
theorem grownBy_trans {a b c : World} {row : Option Nat} (h : a.grownBy b row) (k : b.grownBy c row) : a.grownBy c row := h.trans k
theorem grownBy_set {a w : World} {row : Option Nat} (h : a.grownBy w row) {p : Addr} (hp : a.heap.size ≤ p.block) (u : Value) : a.grownBy (w.setCell p u) row :=
  ⟨h.os, h.tape, h.output, by simpa [World.setCell] using h.size, fun i hi hne => (Below.heap_setCell w p u i (by omega)).trans (h.block i hi hne)⟩
theorem grownBy_drew {a w : World} {row : Option Nat} (h : a.grownBy w row) : a.grownBy w.drew row := ⟨h.os, h.tape, h.output, h.size, h.block⟩
theorem grownBy_undrew {a w : World} {row : Option Nat} (h : a.drew.grownBy w row) : a.grownBy w row := ⟨h.os, h.tape, h.output, h.size, h.block⟩
theorem grown_below {a w : World} {row : Option Nat} {B : Nat} (h : a.grownBy w row) (hB : B ≤ a.heap.size) (hr : ∀ k, row = some k → B ≤ k) : Below B a w := (Below.refl B a).grown h hB hr
end Go.Dw

/- slices.Clone at []int. -/
set_option linter.unusedSimpArgs false
set_option linter.unusedVariables false
namespace Go.Proofs.Ytnhmhjhfoonakaa
open Go.RowKit Go.Dw

theorem sint_info : (Try.prog.info? 3).map (fun i => (i.zero, i.size, i.bytes)) = some (some (.int .i64 0), 1, 8) := by kernel_rfl
theorem ints_info : (Try.prog.info? 54).map (fun i => (i.zero, i.size, i.bytes)) = some (some (.slice none 0 0), 1, 24) := by kernel_rfl

end Go.Proofs.Ytnhmhjhfoonakaa

/- blank | empty: a sound of zeros. -/
set_option linter.unusedSimpArgs false
set_option linter.unusedVariables false
namespace Go.Proofs.Ytnhmhjhfoonakaa
open Go.RowKit Go.Dw

set_option maxRecDepth 100000 in
set_option maxHeartbeats 1000000 in
theorem BLANK_any (r : Int) (T n : Nat) (hT : T ≤ 1000000) (hn : n ≤ 1000000) (w : World) :
    Calls Try.prog 21 #[.int .i64 r, .int .i64 T, .int .i64 n] w (OutS1 w r (zeroS T n)) := by
  obtain ⟨i0, hi0, hi1, hi2, hi3⟩ := info_parts ints_info
  obtain ⟨j0, hj0, hj1, hj2, hj3⟩ := info_parts sint_info
  have hmk := run_mk (P := Try.prog) 22 54 i0 _ Try.underlying22 hi0 hi1 hi2 rfl T (by rw [hi3]; omega) (by omega)
  have hmi := run_mk (P := Try.prog) 54 3 j0 _ Try.underlying54 hj0 hj1 hj2 rfl n (by rw [hj3]; omega) (by omega)
  clear hi0 hi1 hi2 hi3 hj0 hj1 hj2 hj3
  go_enter Try.func21, Try.ntmps21
  go_wp2_with fail
  go_loopw [16] (fun i wr => ∃ (k : Nat) (rows : List Value), k ≤ T ∧ i = .int .i64 k ∧ Hid (Below w.heap.size w wr) ∧ Hid (wr.heap[w.heap.size]? = some (.cells #[.int .i64 0, .slice none 0 0] 24 (0, 0))) ∧ Hid (wr.heap[w.heap.size + 1 + 1]? = some (.cells #[.int .i64 r, .slice (some ⟨w.heap.size + 1, 0, none⟩) T T] 24 (0, 0))) ∧ Hid (OwnRowsL wr (w.heap.size + 1) (.slice (some ⟨w.heap.size + 1, 0, none⟩) T T) (zeroK T n k) rows)) (fun i _ => T - (intOf i).toNat)
  case atStart =>
    have h3 := heap3 w (.cells #[.int .i64 0, .slice none 0 0] 24) (.cells (mk0 (.slice none 0 0) T) 54) (.cells #[.int .i64 r, .slice (some ⟨w.heap.size + 1, 0, none⟩) T T] 24)
    refine ⟨0, List.replicate T (.slice none 0 0), Nat.zero_le _, rfl, (((Below.refl _ _).alloc (Nat.le_refl _) _).alloc (by simp) _).alloc (by simp; omega) _, h3.1, h3.2.2, ?_⟩
    have h4 := (OwnRowsL.nils (w.alloc (.cells #[.int .i64 0, .slice none 0 0] 24)) (w.heap.size + 1) T (by simp) (by simp only [maxLen]; omega)).alloc (.cells #[.int .i64 r, .slice (some ⟨w.heap.size + 1, 0, none⟩) T T] 24)
    show OwnRowsL _ _ _ _ _
    rw [zeroK_start]
    simpa using h4
  case round =>
    obtain ⟨k, rows, hk, rfl, hb, hres, hbox, hL⟩ := hrel
    by_cases hlt : k < T
    · have hg7 : w.heap.size + 1 + 1 < wr.heap.size := blk_lt hbox.out
      have hk0 : (0 : Int) ≤ (k : Int) := by omega
      have hkn : (k : Int) < (T : Int) := by omega
      have hcr := own_cell1 hbox.out 1
      simp at hcr
      go_wp2_with fail
      have hS : wr.drew.heap[w.heap.size + 1 + 1]? = some (.cells #[.int .i64 r, .slice (some ⟨w.heap.size + 1, 0, none⟩) T T] 24 (0, 0)) ∧ wr.drew.cell? ⟨w.heap.size + 1 + 1, 1, none⟩ = some (.slice (some ⟨w.heap.size + 1, 0, none⟩) T T) := ⟨hbox.out, own_cell1 hbox.out 1⟩
      refine wp_region_head 5 (fun w' => w'.heap[w.heap.size + 1 + 1]? = some (.cells #[.int .i64 r, .slice (some ⟨w.heap.size + 1, 0, none⟩) T T] 24 (0, 0)) ∧ w'.cell? ⟨w.heap.size + 1 + 1, 1, none⟩ = some (.slice (some ⟨w.heap.size + 1, 0, none⟩) T T)) (by kernel_rfl) (by kernel_rfl) ?_
      refine HL.take (i := 0) (oi := _) (v := ?_) rfl (by kernel_rfl) (by kernel_rfl) (by decide) (fun _ _ _ h => h) (Or.inl ⟨by rfl, ?_⟩) hS ?_
      rotate_left
      · intro wz hwz
        try dsimp only at hwz
        go_simp
        try with_reducible rfl
      simp only [Act.put, List.setIfInBounds_toArray, List.set_cons_zero, List.set_cons_succ]
      refine HL.take (i := 1) (oi := _) (v := ?_) rfl (by kernel_rfl) (by kernel_rfl) (by decide) (fun _ _ _ h => h) (Or.inl ⟨by rfl, ?_⟩) hS ?_
      rotate_left
      · intro wz hwz
        try dsimp only at hwz
        go_simp
        try with_reducible rfl
      simp only [Act.put, List.setIfInBounds_toArray, List.set_cons_zero, List.set_cons_succ]
      refine HL.take (i := 2) (oi := _) (v := ?_) rfl (by kernel_rfl) (by kernel_rfl) (by decide) (fun _ _ _ h => h) (Or.inl ⟨by rfl, ?_⟩) hS ?_
      rotate_left
      · intro wz hwz
        try dsimp only at hwz
        go_simp
        try with_reducible rfl
      simp only [Act.put, List.setIfInBounds_toArray, List.set_cons_zero, List.set_cons_succ]
      refine HL.take (i := 3) (oi := _) (v := ?_) rfl (by kernel_rfl) (by kernel_rfl) (by decide) (fun _ _ _ h => h) (Or.inl ⟨by rfl, ?_⟩) hS ?_
      rotate_left
      · intro wz hwz
        try dsimp only at hwz
        go_simp
        try with_reducible rfl
      simp only [Act.put, List.setIfInBounds_toArray, List.set_cons_zero, List.set_cons_succ]
      refine HL.one (i := 4) (o := _) rfl (by kernel_rfl) (by decide) (by rfl) ?_
      intro K hK
      go_simp
      refine hK.out _ _ ⟨(Below.heap_alloc _ _ _ (by simpa using hg7)).trans hbox.out, own_cell1 ((Below.heap_alloc _ _ _ (by simpa using hg7)).trans hbox.out) 1⟩ ?_
      try simp only [Act.put, List.setIfInBounds_toArray, List.set_cons_zero, List.set_cons_succ]
      clear hK K hS
      refine HL.done (by kernel_rfl) ?_
      simp only [List.drop_succ_cons, List.drop_zero]
      obtain ⟨rk, hrk, _⟩ := hL.out.row (k := k) (by rw [zeroK_length hk]; exact hlt)
      have hout := hL.out.outer
      rw [zeroK_length hk] at hout
      have hck := (hout.cellAt k (by omega)).trans hrk
      have hfk := hout.frozenAt k
      have hg1 : w.heap.size + 1 < wr.heap.size := by omega
      clear hrk hcr hout
      go_wp2
      have HL' := Lib.hid (hL.out.setRow (w := wr.alloc (.cells (mk0 (.int .i64 0) n) 3)) (r := .slice (some ⟨wr.heap.size, 0, none⟩) n n) (xs := List.replicate n 0) (k := k) ((Below.refl _ _).alloc (Nat.le_refl _) _) (by omega) (by simpa using own_mk wr wr.heap.size 3 (.int .i64 0) n (Nat.le_refl _) (by simp only [maxLen]; omega)) (by rw [zeroK_length hk]; exact hlt))
      go_roundw
      case rel =>
        have HL2 := HL'.out
        rw [World.setCell_alloc_past _ _ _ _ hg1, zeroK_step hlt] at HL2
        have hgg : w.heap.size < (wr.setCell ⟨w.heap.size + 1, k, none⟩ (.slice (some ⟨wr.heap.size, 0, none⟩) n n)).heap.size := by simp; omega
        have hgg2 : w.heap.size + 1 + 1 < (wr.setCell ⟨w.heap.size + 1, k, none⟩ (.slice (some ⟨wr.heap.size, 0, none⟩) n n)).heap.size := by simp; omega
        refine ⟨k + 1, rows.set k (.slice (some ⟨wr.heap.size, 0, none⟩) n n), by omega, by go_num, ?_, ?_, ?_, ?_⟩
        · exact ((hb.out.setCell (p := ⟨w.heap.size + 1, k, none⟩) (by simp) _).alloc (by omega) _).drew
        · show _ = _
          exact (Below.heap_alloc _ _ _ hgg).trans ((Below.heap_setCell _ _ _ _ (by simp)).trans hres.out)
        · show _ = _
          exact (Below.heap_alloc _ _ _ hgg2).trans ((Below.heap_setCell _ _ _ _ (by simp)).trans hbox.out)
        · exact HL2.drew
      case measure => simp [intOf]; omega
    · obtain rfl : k = T := by omega
      have hcr0 := own_cell1 hres.out 0
      have hcr1 := own_cell1 hres.out 1
      have hcb0 := own_cell1 hbox.out 0
      have hcb1 := own_cell1 hbox.out 1
      have hf0 := frozen_of_row wr w.heap.size 0 _ _ hres.out
      have hf1 := frozen_of_row wr w.heap.size 1 _ _ hres.out
      simp at hcr0 hcr1 hcb0 hcb1
      go_wp2
      refine end_snd1 rfl rfl rfl hcr0 hcr1 ?_
      refine ⟨_, rfl, ⟨rows, ?_⟩, set2_below hb.out (Nat.le_refl _)⟩
      have h1 := hL.out
      rw [zeroK_end] at h1
      exact ((h1.set_below (p := ⟨w.heap.size, 0, none⟩) (by simp) _).set_below (p := ⟨w.heap.size, 1, none⟩) (by simp) _).base (by omega)

theorem heap2 (w : World) (A B : Obj) : ((w.alloc A).alloc B).heap[w.heap.size]? = some A ∧ ((w.alloc A).alloc B).heap[w.heap.size + 1]? = some B := by
  have h1 : (w.alloc A).heap.size = w.heap.size + 1 := by simp
  refine ⟨?_, ?_⟩
  · rw [Below.heap_alloc _ _ _ (by omega)]; exact heap_alloc_new _ _
  · rw [← h1]; exact heap_alloc_new _ _
theorem rep_snoc (k n : Nat) : zeroS k n ++ [List.replicate n 0] = zeroS (k + 1) n := by
  unfold zeroS
  rw [List.replicate_succ']

end Go.Proofs.Ytnhmhjhfoonakaa

/- A loop that fills a blank sound of the call's own, element by element. -/
set_option linter.unusedSimpArgs false
set_option linter.unusedVariables false
namespace Go.Proofs.Ytnhmhjhfoonakaa
open Go.RowKit Go.Dw

/-- what holds at every element's head: the sound lies in the box g, its rows read as yss -/
structure FillI (N : Nat) (W : World) (g : Nat) (o0 : Value) (gv n cV : Nat) (rows : List Value) (wr : World) (yss : List (List Int)) : Prop where
  below : Below N W wr
  box : wr.heap[g]? = some (.cells #[o0, .slice (some ⟨gv, 0, none⟩) n cV] 24 (0, 0))
  own : OwnRowsL wr N (.slice (some ⟨gv, 0, none⟩) n cV) yss rows
  ge : N ≤ g
section
variable {N : Nat} {W : World} {g : Nat} {o0 : Value} {gv n cV : Nat} {rows : List Value} {wr w2 : World} {yss : List (List Int)}
theorem FillI.drew (h : FillI N W g o0 gv n cV rows wr yss) : FillI N W g o0 gv n cV rows wr.drew yss := ⟨h.below.drew, h.box, h.own.drew, h.ge⟩
theorem FillI.drewN (h : FillI N W g o0 gv n cV rows wr yss) (q : Nat) : FillI N W g o0 gv n cV rows (wr.drewN q) yss := ⟨belowN h.below q, h.box, ⟨h.own.outer, h.own.inner, h.own.apart⟩, h.ge⟩
theorem FillI.next (h : FillI N W g o0 gv n cV rows wr yss) (hN : N ≤ W.heap.size) (hb : Below wr.heap.size wr w2) : FillI N W g o0 gv n cV rows w2 yss :=
  ⟨Below.next h.below hN hb, (hb.block g (blk_lt h.box)).trans h.box, h.own.below hb, h.ge⟩
theorem FillI.set_ (h : FillI N W g o0 gv n cV rows wr yss) {k b m cap : Nat} (hr : rows[k]? = some (.slice (some ⟨b, 0, none⟩) m cap)) (j : Nat) (y : Int) :
    FillI N W g o0 gv n cV rows (wr.setCell ⟨b, j, none⟩ (.int .i64 y)) (yss.set k ((rowOf yss k).set j y)) := by
  have hin := h.own.inner k _ hr
  have hb : N ≤ b := (own_lt hin rfl).1
  have hne : b ≠ g := fun e => own_ne_blk hin h.box (by decide) (by rw [e]; rfl)
  exact ⟨h.below.setCell (p := ⟨b, j, none⟩) hb _, (Below.heap_setCell _ _ _ _ (by simp; omega)).trans h.box, h.own.setEl hr, h.ge⟩
theorem FillI.put {Y : List (List Int)} {m k j b cap : Nat} {y : Int} (h : FillI N W g o0 gv n cV rows wr (partK Y m k j)) (hr : rows[k]? = some (.slice (some ⟨b, 0, none⟩) m cap)) (hk : k < Y.length) (hl : (rowOf Y k).length = m) (hj : j < m) (hy : elOf (rowOf Y k) j = y) :
    FillI N W g o0 gv n cV rows (wr.setCell ⟨b, j, none⟩ (.int .i64 y)) (partK Y m k (j + 1)) := by
  have := h.set_ hr j y
  rwa [partK_set hk hl hj hy] at this
theorem FillI.slot (h : FillI N W g o0 gv n cV rows wr yss) {k m : Nat} (hk : k < yss.length) (hm : (rowOf yss k).length = m) (h0 : 0 < m) : ∃ b cap, rows[k]? = some (.slice (some ⟨b, 0, none⟩) m cap) ∧ m ≤ cap ∧ cap ≤ maxLen ∧ n = yss.length ∧ n ≤ cV ∧ cV ≤ maxLen := by
  obtain ⟨r, h1, h2⟩ := h.own.row hk
  rw [hm] at h2
  obtain ⟨b, cap, rfl, _, _, h3, h4, _⟩ := own_slot h2 h0
  obtain ⟨A, c, e, h5, h6⟩ := own_form h.own.outer
  injection e with e1 e2 e3
  exact ⟨b, cap, h1, h3, h4, e2, by omega, by omega⟩
/-- what a walk reads: the sound's rows, the row, its element; it may be written -/
theorem FillI.cells (h : FillI N W g o0 gv n cV rows wr yss) {k b m cap : Nat} (hr : rows[k]? = some (.slice (some ⟨b, 0, none⟩) m cap)) : wr.cell? ⟨g, 1, none⟩ = some (.slice (some ⟨gv, 0, none⟩) n cV) ∧ wr.cell? ⟨gv, k, none⟩ = some (.slice (some ⟨b, 0, none⟩) m cap) := by
  have hk : k < rows.length := (List.getElem?_eq_some_iff.1 hr).1
  have hn : n = yss.length := by
    obtain ⟨A, c, e, _, _⟩ := own_form h.own.outer
    injection e
  have ho := h.own.outer
  rw [← hn] at ho
  have hl := ho.1
  exact ⟨own_cell1 h.box 1, (ho.cellAt k (by omega)).trans hr⟩
theorem FillI.elem (h : FillI N W g o0 gv n cV rows wr yss) {k b m cap j : Nat} (hr : rows[k]? = some (.slice (some ⟨b, 0, none⟩) m cap)) (hj : j < m) : (∃ vo, wr.cell? ⟨b, j, none⟩ = some vo) ∧ wr.frozen? ⟨b, j, none⟩ = false := by
  have hin := h.own.inner k _ hr
  have hm : m = (rowOf yss k).length := by
    obtain ⟨A, c, e, _, _⟩ := own_form hin
    injection e
  subst hm
  exact ⟨⟨_, (hin.cellAt j (by omega)).trans (List.getElem?_eq_getElem (by simp; exact hj))⟩, hin.frozenAt j⟩
end
/-- a blank sound is put into a new box -/
theorem FillI.start {N : Nat} {W w : World} {o0 : Value} {A : Option Addr} {n c T m : Nat} {yss : List (List Int)} (hy : yss.length = T) (hb : Below N W w) (hN : N ≤ w.heap.size) (ho : OwnRows w N (.slice A n c) (zeroS T m)) (hT : 0 < T) :
    ∃ gv rows, A = some ⟨gv, 0, none⟩ ∧ n = T ∧ FillI N W w.heap.size o0 gv n c rows (w.alloc (.cells #[o0, .slice A n c] 24)) (partK yss m 0 0) := by
  rw [partK_start, hy]
  obtain ⟨rows, hL⟩ := ho
  have h1 := hL.outer
  rw [zeroS_length] at h1
  obtain ⟨gv, cap, e, _⟩ := own_slot h1 hT
  injection e with e1 e2 e3
  subst e1 e2
  exact ⟨gv, rows, rfl, rfl, hb.alloc hN _, heap_alloc_new _ _, hL.alloc _, hN⟩
end Go.Proofs.Ytnhmhjhfoonakaa

/- each, once more: the function value may turn a range of blocks (a count and two maps); the state is known at every step. -/
set_option linter.unusedSimpArgs false
set_option linter.unusedVariables false
namespace Go.Dw
open Go.RowKit
/-- all blocks stay but those from lo to below hi -/
structure Alt (lo hi : Nat) (w w' : World) : Prop where
  os : w'.os = w.os
  tape : w'.tape = w.tape
  output : w'.output = w.output
  size : w.heap.size ≤ w'.heap.size
  block : ∀ k, k < w.heap.size → (k < lo ∨ hi ≤ k) → w'.heap[k]? = w.heap[k]?
theorem Alt.trans {lo hi : Nat} {a b c : World} (h : Alt lo hi a b) (h' : Alt lo hi b c) : Alt lo hi a c :=
  ⟨h'.os.trans h.os, h'.tape.trans h.tape, h'.output.trans h.output, Nat.le_trans h.size h'.size, fun k hk hc => (h'.block k (Nat.lt_of_lt_of_le hk h.size) hc).trans (h.block k hk hc)⟩
theorem Alt.of_below {lo hi : Nat} {a b : World} (h : Below a.heap.size a b) : Alt lo hi a b := ⟨h.os, h.tape, h.output, h.size, fun k hk _ => h.block k hk⟩
theorem Alt.of_grown {lo hi : Nat} {a b : World} {g : Nat} (h : a.grownBy b (some g)) (h1 : lo ≤ g) (h2 : g < hi) : Alt lo hi a b := ⟨h.os, h.tape, h.output, h.size, fun k hk hc => h.block k hk (by intro e; injection e with e; omega)⟩
theorem Alt.drew {lo hi : Nat} {a w : World} (h : Alt lo hi a w) : Alt lo hi a w.drew := ⟨h.os, h.tape, h.output, h.size, h.block⟩
theorem Alt.set_ {lo hi : Nat} {a w : World} (h : Alt lo hi a w) {p : Addr} (hp : a.heap.size ≤ p.block) (u : Value) : Alt lo hi a (w.setCell p u) :=
  ⟨h.os, h.tape, h.output, by simpa [World.setCell] using h.size, fun i hi hc => (Below.heap_setCell w p u i (by omega)).trans (h.block i hi hc)⟩
theorem Alt.below {lo hi B : Nat} {a w : World} (h : Alt lo hi a w) (hB : B ≤ a.heap.size) (hlo : B ≤ lo) : Below B a w := ⟨h.os, h.tape, h.output, h.size, fun i hi => h.block i (by omega) (.inl (by omega))⟩
theorem own_keepN {w w' : World} {B size n : Nat} {e : TypeId} {v : Value} {xs : List Value} (h : w.ownsRow B e size v n xs) (hb : ∀ k, B ≤ k → k < w.heap.size → w'.heap[k]? = w.heap[k]?) : w'.ownsRow B e size v n xs := by
  refine ⟨h.1, ?_⟩
  rcases h.2 with h0 | ⟨g, cap, cur, hv, hg, hh, r⟩
  · exact .inl h0
  · exact .inr ⟨g, cap, cur, hv, hg, (hb g hg (Array.getElem?_eq_some_iff.1 hh).1).trans hh, r⟩
theorem OwnRowsL.keepN {w w' : World} {B : Nat} {v : Value} {xss : List (List Int)} {rows : List Value} (h : OwnRowsL w B v xss rows) (hb : ∀ k, B ≤ k → k < w.heap.size → w'.heap[k]? = w.heap[k]?) : OwnRowsL w' B v xss rows :=
  ⟨own_keepN h.outer hb, fun k r hr => own_keepN (h.inner k r hr) hb, h.apart⟩
end Go.Dw
namespace Go.Proofs.Ytnhmhjhfoonakaa
open Go.RowKit Go.Dw
attribute [local go_sem ↓] Go.wp_at_zero Go.wp_at_succ

/-- what holds at every element's head -/
structure EachB {σ : Type} (J : World → σ → Prop) (lo hi : Nat) (w W : World) (g : Nat) (o0 V : Value) (rows : List Value) (wr : World) (s : σ) (yss : List (List Int)) : Prop where
  grown : Alt lo hi w wr
  boxes : ∀ j, w.heap.size ≤ j → j < w.heap.size + 2 → wr.heap[j]? = W.heap[j]?
  box : wr.heap[g]? = some (.cells #[o0, V] 24 (0, 0))
  own : OwnRowsL wr (w.heap.size + 2) V yss rows
  st : J wr s
section
variable {σ : Type} {J : World → σ → Prop} {lo hi : Nat} {w W : World} {g : Nat} {o0 V : Value} {rows : List Value} {wr : World} {s s' : σ} {yss : List (List Int)}
theorem EachB.drew (h : EachB J lo hi w W g o0 V rows wr s yss) (hst : ∀ w1 w2 s, J w1 s → Below w.heap.size w1 w2 → J w2 s) : EachB J lo hi w W g o0 V rows wr.drew s yss :=
  ⟨h.grown.drew, h.boxes, h.box, h.own.drew, hst _ _ _ h.st (Below.refl _ _).drew⟩
theorem EachB.call (h : EachB J lo hi w W g o0 V rows wr s yss) (hhi : hi ≤ w.heap.size) (hg : w.heap.size + 2 ≤ g) {w2 : World} (hc : Alt lo hi wr w2) (hJ : J w2 s') : EachB J lo hi w W g o0 V rows w2 s' yss := by
  have hgr := blk_lt h.box
  have hsz := h.grown.size
  refine ⟨h.grown.trans hc, fun j h1 h2 => ?_, ?_, h.own.keepN (fun k hk1 hk2 => hc.block k hk2 (.inr (by omega))), hJ⟩
  · exact (hc.block j (by omega) (.inr (by omega))).trans (h.boxes j h1 h2)
  · exact (hc.block g hgr (.inr (by omega))).trans h.box
theorem EachB.set_ (h : EachB J lo hi w W g o0 V rows wr s yss) (hst : ∀ w1 w2 s, J w1 s → Below w.heap.size w1 w2 → J w2 s) {k j b m cap : Nat} {y : Int} (hr : rows[k]? = some (.slice (some ⟨b, 0, none⟩) m cap)) : EachB J lo hi w W g o0 V rows (wr.setCell ⟨b, j, none⟩ (.int .i64 y)) s (yss.set k ((rowOf yss k).set j y)) := by
  have hin := h.own.inner k _ hr
  have hb : w.heap.size + 2 ≤ b := (own_lt hin rfl).1
  have hne : b ≠ g := fun e => own_ne_blk hin h.box (by decide) (by rw [e]; rfl)
  refine ⟨h.grown.set_ (by simp; omega) _, fun i h1 h2 => ?_, ?_, h.own.setEl hr, hst _ _ _ h.st ((Below.refl _ _).setCell (p := ⟨b, j, none⟩) (by simp; omega) _)⟩
  · exact (Below.heap_setCell _ _ _ _ (by simp; omega)).trans (h.boxes i h1 h2)
  · exact (Below.heap_setCell _ _ _ _ (by simp; omega)).trans h.box
end

set_option maxRecDepth 100000 in
set_option maxHeartbeats 2000000 in
theorem EACHB_any {σ : Type} (J : World → σ → Prop) (G : σ → Prop) (f : Int → Int) (u : σ → Int → σ) (s0 : σ) (fid : FuncId) (caps : Array Value) (lo hi : Nat)
    (r : Int) (ad : Addr) (n c : Nat) (xss : List (List Int)) (hok : Hid (OkS r xss)) (w : World) (B : Nat) (hB : B ≤ w.heap.size) (hh : Hid (RowsAt w B (some ad) n xss))
    (hlo : B ≤ lo) (hhi : hi ≤ w.heap.size) (hGs : Hid (∀ k j, k < xss.length → j < len0 xss → G (stR u (stS u s0 (xss.take k)) ((rowOf xss k).take j)))) (hJ0 : Hid (J w s0)) (hst : Hid (∀ w1 w2 s, J w1 s → Below w.heap.size w1 w2 → J w2 s))
    (hcf : ∀ (args : Array Value) (W : World), (callFunc fid args).run Try.prog W = .ok (.enter fid args) W)
    (hf : Hid (∀ x s w1, smpB x = true → G s → J w1 s → Calls Try.prog fid (#[.int .i64 x] ++ caps) w1 fun e w2 => e = .returned (.int .i64 (f x)) ∧ J w2 (u s x) ∧ Alt lo hi w1 w2)) :
    Calls Try.prog 48 #[.agg #[.int .i64 r, .slice (some ad) n c], .func (.func fid) #[] caps] w fun e w' =>
      (∃ v, e = .returned (.agg #[.int .i64 r, v]) ∧ OwnRows w' w.heap.size v (xss.map (List.map f))) ∧ J w' (stS u s0 xss) ∧ Alt lo hi w w' := by
  have hl := Lib.hid hh.out.1
  have hn16 : n ≤ 16 := by have := hok.out.few; have := hl.out; omega
  have hn0 : 0 < n := by have := hok.out.some; have := hl.out; omega
  have hm := hok.out.long
  go_enter Try.func48, Try.ntmps48
  go_upto_region 1 with fail
  refine wp_later (w.heap.size + 2) ?_
  intro W hW hsW
  obtain ⟨hcW, hfW⟩ := bcell hW
  simp only [World.size_alloc] at hsW
  have hbW : Below w.heap.size w W := (((Below.refl _ w).alloc (Nat.le_refl _) _).alloc (by simp) _).trans (hW.mono (by omega))
  go_cut [5] (fun s5 wx => ∃ (g : Nat) (V : Value) (rows : List Value), s5 = .pointer (some ⟨g, 0, none⟩) ∧ Hid (wx.heap[g]? = some (.cells #[.int .i64 r, V] 24 (0, 0))) ∧ Hid (OwnRowsL wx (w.heap.size + 2) V (zeroS n (len0 xss)) rows) ∧ Hid (Below (w.heap.size + 2) W wx) ∧ w.heap.size + 2 ≤ g)
  case first =>
    go_region_held3 (fun w' => Below (w.heap.size + 2) W w' ∧ ∀ z : Addr, z.block < w.heap.size + 2 → w'.cell? z = W.cell? z)
      ((refine (fun h => ⟨h, pcell h⟩) ?_; repeat (first | assumption | exact Below.refl _ _ | (refine Below.drew ?_) | (refine Below.alloc ?_ (by first | omega | (simp; omega) | exact Nat.le_trans hsW (Below.size (by assumption)) | (simp only [World.size_drew, World.size_alloc]; exact Nat.le_trans hsW (Nat.le_succ_of_le (Below.size (by assumption))))) _) | (refine Below.setCell ?_ (by first | omega | (simp; omega) | exact Nat.le_trans hsW (Below.size (by assumption))) _))))
      (first
        | (go_at_call 22; refine (LENGTH_any r (some ad) n c xss _ B (Below.ge ‹Below (w.heap.size + 2) W _ ∧ _› hsW (by omega)) (hh.out.below (Below.via hbW ‹Below (w.heap.size + 2) W _ ∧ _› (by omega)) hB) hn0).mono ?_; rintro e w1 ⟨rfl, hb1⟩; have hbS := Below.next (‹Below (w.heap.size + 2) W _ ∧ _›).1 hsW hb1; have hz1 := pcell hb1; have hy1 := fun b o => (bcell hb1).2 b o; have hs1 := hb1.size; simp only [World.size_alloc, World.size_drew, Nat.add_one_le_iff] at hs1)
        | (go_at_call 21; refine (BLANK_any r n (len0 xss) (by omega) (by omega) _).mono ?_; rintro e w2 ⟨v2, rfl, ho2, hb2⟩; obtain ⟨A2, c2, rfl, _, _⟩ := ho2.form; have hbS2 := Below.next (‹Below (w.heap.size + 2) W _ ∧ _›).1 hsW hb2; have hz2 := pcell hb2; have hy2 := fun b o => (bcell hb2).2 b o; have hs2 := hb2.size; (try simp only [World.size_alloc, Nat.add_one_le_iff] at hs2)))
    all_goals (go_wp2_with fail; go_meet)
    · obtain ⟨rows, hL2⟩ := ho2
      have hx1 : w.heap.size + 2 ≤ w1.heap.size := Nat.le_trans hsW hbS.size
      exact ⟨w2.heap.size, _, rows, rfl, heap_alloc_new _ _, (hL2.alloc _).base hx1, hbS2.alloc (by omega) _, by omega⟩
    · obtain ⟨rows, hL2⟩ := ho2
      have hx1 : w.heap.size + 2 ≤ w1.heap.size := Nat.le_trans hsW hbS.size
      have hb2x := (hb2.block w1.heap.size (by simp)).trans (heap_alloc_new w1 (.cells #[.int .i64 0, .slice none 0 0] 24))
      exact ⟨w1.heap.size, _, rows, rfl, heap_set2 hb2x, (hL2.base (by simp; omega)).set2_far hb2x (by decide) (by decide) _ _, set2_below hbS2 hx1, hx1⟩
    · obtain ⟨rows, hL2⟩ := ho2
      have hx1 : w.heap.size + 2 ≤ w1.heap.size := Nat.le_trans hsW hbS.size
      have hb2x := (hb2.block W.heap.size (by have := hb1.size; simp at this; omega)).trans ((hb1.block W.heap.size (by simp)).trans (heap_alloc_new W (.cells #[.int .i64 0, .slice none 0 0] 24)))
      exact ⟨W.heap.size, _, rows, rfl, heap_set2 hb2x, (hL2.base hx1).set2_far hb2x (by decide) (by decide) _ _, set2_below hbS2 hsW, hsW⟩
  case rest =>
    obtain ⟨g, V, rows, rfl, hbox, hL, hb, hg⟩ := hcut
    obtain ⟨AV, cV, hVe, _, _⟩ := own_form hL.out.outer
    rw [zeroS_length] at hVe
    subst hVe
    obtain ⟨gv, hgv⟩ : ∃ gv, AV = some ⟨gv, 0, none⟩ := by
      have h1 := hL.out.outer
      rw [zeroS_length] at h1
      obtain ⟨gv, cap, e, _⟩ := own_slot h1 hn0
      exact ⟨gv, by injection e⟩
    subst hgv
    have hz0 := pcell hb.out
    go_wp2_with fail
    clear hz0
    have hbwc : Below w.heap.size w wc := hbW.trans (hb.out.mono (by omega))
    have hI0 : Hid (EachB J lo hi w W g (.int .i64 r) (.slice (some ⟨gv, 0, none⟩) n cV) rows wc s0 (zeroS n (len0 xss))) := ⟨Alt.of_below hbwc, fun j _ h2 => hb.out.block j h2, hbox.out, hL.out, hst.out _ _ _ hJ0.out hbwc⟩
    clear hbox hL hb
    go_loopw [21] (fun i wr => ∃ k : Nat, k ≤ n ∧ i = .int .i64 k ∧ Hid (EachB J lo hi w W g (.int .i64 r) (.slice (some ⟨gv, 0, none⟩) n cV) rows wr (stS u s0 (xss.take k)) (eachK f xss (len0 xss) k 0))) (fun i _ => n - (intOf i).toNat)
    case atStart => exact ⟨0, Nat.zero_le _, rfl, by show EachB _ _ _ _ _ _ _ _ _ _ _ _; rw [eachK_start, hl.out]; exact hI0.out⟩
    case round =>
      obtain ⟨k, hk, rfl, hI⟩ := hrel
      by_cases hlt : k < n
      · have hkx : Hid (k < xss.length) := by show _ < _; have := hl.out; omega
        have hbr : Below B w wr := hI.out.grown.below hB hlo
        obtain ⟨A', n', c', hadB, hcell0, hn', hc', hi⟩ := hh.out.row hlt
        obtain rfl : n' = len0 xss := hi.1.symm.trans (hok.out.row hkx.out).1
        have hcell := (hbr.cell (p := ad.add k) (by rw [block_of_add]; omega)).trans hcell0
        have hi' := Lib.hid hi
        clear hi hbr hcell0
        unfold maxLen at hc'
        go_wp2_with fail
        clear hcell
        have hk0 : (0 : Int) ≤ (k : Int) := by omega
        have hkn : (k : Int) < (n : Int) := by omega
        obtain ⟨wo, hwo⟩ : ∃ wo : World, wo = wr := ⟨_, rfl⟩
        rw [← hwo] at hI ⊢
        clear hwo
        go_loopw [28] (fun i wi => ∃ j : Nat, j ≤ len0 xss ∧ i = .int .i64 j ∧ Hid (EachB J lo hi w W g (.int .i64 r) (.slice (some ⟨gv, 0, none⟩) n cV) rows wi (stR u (stS u s0 (xss.take k)) ((rowOf xss k).take j)) (eachK f xss (len0 xss) k j))) (fun i _ => len0 xss - (intOf i).toNat)
        case atStart => exact ⟨0, Nat.zero_le _, rfl, hI.out⟩
        case round =>
          obtain ⟨j, hj, rfl, hi⟩ := hrel
          by_cases hjl : j < len0 xss
          · have hbi : Below B w wr := hi.out.grown.below hB hlo
            obtain ⟨ad', rfl⟩ := hi'.out.addr (by omega)
            have hcell2 := ((hi'.out.below hbi (Nat.le_refl _)).at_ hjl).2
            have hsm := Lib.hid (smpB_mk (hok.out.el hkx.out hjl).1 (hok.out.el hkx.out hjl).2)
            have hlen : (eachK f xss (len0 xss) k j).length = n := eachK_length.trans hl.out
            obtain ⟨rk, hrk1, hrk2⟩ := hi.out.own.row (k := k) (by rw [hlen]; exact hlt)
            have hrl : (rowOf (eachK f xss (len0 xss) k j) k).length = len0 xss := by
              rw [eachK_row hkx.out, if_neg (by omega), if_pos rfl]
              have := (hok.out.row hkx.out).1
              simp [this]; omega
            rw [hrl] at hrk2
            obtain ⟨b, cap, rfl, hbb, _, hcap1, hcap2, _⟩ := own_slot hrk2 (by omega)
            have hout := hi.out.own.outer
            rw [hlen] at hout
            have hS : wr.drew.cell? ⟨g, 1, none⟩ = some (.slice (some ⟨gv, 0, none⟩) n cV) ∧ wr.drew.cell? ⟨gv, k, none⟩ = some (.slice (some ⟨b, 0, none⟩) (len0 xss) cap) := ⟨own_cell1 hi.out.box 1, (hout.cellAt k (by omega)).trans hrk1⟩
            have hj0 : (0 : Int) ≤ (j : Int) := by omega
            have hjn : (j : Int) < (len0 xss : Int) := by omega
            have HL1 := Lib.hid hlen
            have HR1 := Lib.hid hrk1
            clear hbi hlen hrl hrk1 hrk2 hout
            go_wp2_with fail
            refine wp_region_head 9 (fun w' => w'.cell? ⟨g, 1, none⟩ = some (.slice (some ⟨gv, 0, none⟩) n cV) ∧ w'.cell? ⟨gv, k, none⟩ = some (.slice (some ⟨b, 0, none⟩) (len0 xss) cap)) (by kernel_rfl) (by kernel_rfl) ?_
            refine HL.take (i := 0) (oi := _) (v := ?_) rfl (by kernel_rfl) (by kernel_rfl) (by decide) (fun _ _ _ h => h) (Or.inl ⟨by rfl, ?_⟩) hS ?_
            rotate_left
            · intro wz hwz
              try dsimp only at hwz
              go_simp
              try with_reducible rfl
            simp only [Act.put, List.setIfInBounds_toArray, List.set_cons_zero, List.set_cons_succ]
            refine HL.take (i := 1) (oi := _) (v := ?_) rfl (by kernel_rfl) (by kernel_rfl) (by decide) (fun _ _ _ h => h) (Or.inl ⟨by rfl, ?_⟩) hS ?_
            rotate_left
            · intro wz hwz
              try dsimp only at hwz
              go_simp
              try with_reducible rfl
            simp only [Act.put, List.setIfInBounds_toArray, List.set_cons_zero, List.set_cons_succ]
            refine HL.take (i := 2) (oi := _) (v := ?_) rfl (by kernel_rfl) (by kernel_rfl) (by decide) (fun _ _ _ h => h) (Or.inl ⟨by rfl, ?_⟩) hS ?_
            rotate_left
            · intro wz hwz
              try dsimp only at hwz
              go_simp
              try with_reducible rfl
            simp only [Act.put, List.setIfInBounds_toArray, List.set_cons_zero, List.set_cons_succ]
            refine HL.take (i := 3) (oi := _) (v := ?_) rfl (by kernel_rfl) (by kernel_rfl) (by decide) (fun _ _ _ h => h) (Or.inl ⟨by rfl, ?_⟩) hS ?_
            rotate_left
            · intro wz hwz
              try dsimp only at hwz
              go_simp
              try with_reducible rfl
            simp only [Act.put, List.setIfInBounds_toArray, List.set_cons_zero, List.set_cons_succ]
            refine HL.take (i := 4) (oi := _) (v := ?_) rfl (by kernel_rfl) (by kernel_rfl) (by decide) (fun _ _ _ h => h) (Or.inl ⟨by rfl, ?_⟩) hS ?_
            rotate_left
            · intro wz hwz
              try dsimp only at hwz
              go_simp
              try with_reducible rfl
            simp only [Act.put, List.setIfInBounds_toArray, List.set_cons_zero, List.set_cons_succ]
            refine HL.take (i := 5) (oi := _) (v := ?_) rfl (by kernel_rfl) (by kernel_rfl) (by decide) (fun _ _ _ h => h) (Or.inl ⟨by rfl, ?_⟩) hS ?_
            rotate_left
            · intro wz hwz
              try dsimp only at hwz
              go_simp
              try with_reducible rfl
            simp only [Act.put, List.setIfInBounds_toArray, List.set_cons_zero, List.set_cons_succ]
            refine HL.take (i := 6) (oi := _) (v := ?_) rfl (by kernel_rfl) (by kernel_rfl) (by decide) (fun _ _ _ h => h) (Or.inl ⟨by rfl, ?_⟩) hS ?_
            rotate_left
            · intro wz hwz
              try dsimp only at hwz
              go_simp
              try with_reducible rfl
            simp only [Act.put, List.setIfInBounds_toArray, List.set_cons_zero, List.set_cons_succ]
            refine HL.take (i := 7) (oi := _) (v := ?_) rfl (by kernel_rfl) (by kernel_rfl) (by decide) (fun _ _ _ h => h) (Or.inl ⟨by rfl, ?_⟩) hS ?_
            rotate_left
            · intro wz hwz
              try dsimp only at hwz
              go_simp
              try with_reducible rfl
            simp only [Act.put, List.setIfInBounds_toArray, List.set_cons_zero, List.set_cons_succ]
            refine HL.one (i := 8) (o := _) rfl (by kernel_rfl) (by decide) (by rfl) ?_
            intro K hK
            go_simp
            have hI1 := hi.out.drew hst.out
            refine (hf.out _ _ _ hsm.out (hGs.out k j hkx.out hjl) hI1.st).mono ?_
            rintro e w2 ⟨rfl, hJ2, hg2⟩
            have hI2 := hI1.call hhi hg hg2 hJ2
            have hout2 := hI2.own.outer
            rw [HL1.out] at hout2
            have hcrow := (hout2.cellAt k (by omega)).trans HR1.out
            refine hK.out _ _ ⟨own_cell1 hI2.box 1, hcrow⟩ ?_
            try simp only [Act.put, List.setIfInBounds_toArray, List.set_cons_zero, List.set_cons_succ]
            clear hK K hS
            refine HL.done (by kernel_rfl) ?_
            simp only [List.drop_succ_cons, List.drop_zero]
            obtain ⟨q, hq1, hq2⟩ := hI2.own.row (k := k) (by rw [HL1.out]; exact hlt)
            obtain rfl : Value.slice (some ⟨b, 0, none⟩) (len0 xss) cap = q := by rw [HR1.out] at hq1; injection hq1
            have hrl : (rowOf (eachK f xss (len0 xss) k j) k).length = len0 xss := by
              rw [eachK_row hkx.out, if_neg (by omega), if_pos rfl]
              have := (hok.out.row hkx.out).1
              simp [this]; omega
            rw [hrl] at hq2
            have hbj := hq2.cellAt j (by omega)
            have hfj := hq2.frozenAt j
            obtain ⟨vo, hvo⟩ : ∃ vo, w2.cell? ⟨b, j, none⟩ = some vo := ⟨_, hbj.trans (List.getElem?_eq_getElem (by simp [hrl]; exact hjl))⟩
            have hI3 := hI2.set_ (j := j) (y := f (elOf (rowOf xss k) j)) hst.out HR1.out
            rw [eachK_step hkx.out (hok.out.row hkx.out).1 hjl, ← stR_take (u := u) (s := stS u s0 (xss.take k)) (xs := rowOf xss k) (j := j) (by rw [(hok.out.row hkx.out).1]; exact hjl)] at hI3
            have HI3 := Lib.hid hI3
            clear hI1 hI2 hI3 hout2 hcrow hq1 hq2 hbj hrl hJ2 hg2
            go_wp2
            go_roundw
            case rel => exact ⟨j + 1, by omega, by go_num, HI3.out⟩
            case measure => simp [intOf]; omega
          · obtain rfl : j = len0 xss := by omega
            go_wp2
            go_roundw
            case rel =>
              refine ⟨k + 1, by omega, by go_num, ?_⟩
              have := hi.out
              rw [List.take_of_length_le (l := rowOf xss k) (by rw [(hok.out.row hkx.out).1]; omega), ← stS_take hkx.out, eachK_next (fun a ha => (hok.out.row ha).1)] at this
              exact this
            case measure => simp [intOf]; omega
      · obtain rfl : k = n := by omega
        have hbb := hI.out.box
        have hcb0 := own_cell1 hbb 0
        have hcb1 := own_cell1 hbb 1
        simp at hcb0 hcb1
        have hres0 := (hI.out.boxes (w.heap.size + 1) (by omega) (by omega))
        have hcr0 : wr.cell? ⟨w.heap.size + 1, 0, none⟩ = some (.int .i64 0) := (World.cell?_of_block (a := ⟨w.heap.size + 1, 0, none⟩) hres0).trans ((hcW _ _ (by omega)).trans (by simp [go_sem]))
        have hcr1 : wr.cell? ⟨w.heap.size + 1, 1, none⟩ = some (.slice none 0 0) := (World.cell?_of_block (a := ⟨w.heap.size + 1, 1, none⟩) hres0).trans ((hcW _ _ (by omega)).trans (by simp [go_sem]))
        have hfr0 : wr.frozen? ⟨w.heap.size + 1, 0, none⟩ = false := (World.frozen?_of_block (a := ⟨w.heap.size + 1, 0, none⟩) hres0).trans ((hfW _ _ (by omega)).trans (by simp [go_sem]))
        have hfr1 : wr.frozen? ⟨w.heap.size + 1, 1, none⟩ = false := (World.frozen?_of_block (a := ⟨w.heap.size + 1, 1, none⟩) hres0).trans ((hfW _ _ (by omega)).trans (by simp [go_sem]))
        clear hbb hres0
        go_wp2
        refine end_snd1 rfl rfl rfl hcr0 hcr1 ?_
        have hI9 := hI.out
        have hln := hl.out
        rw [List.take_of_length_le (by omega)] at hI9
        have hE : eachK f xss (len0 xss) k 0 = xss.map (List.map f) := by rw [← hln]; exact eachK_end
        rw [hE] at hI9
        exact ⟨⟨_, rfl, ⟨rows, ((hI9.own.set_below (p := ⟨w.heap.size + 1, 0, none⟩) (by simp) _).set_below (p := ⟨w.heap.size + 1, 1, none⟩) (by simp) _).base (show w.heap.size ≤ w.heap.size + 2 by omega)⟩⟩,
          hst.out _ _ _ hI9.st (set2_below (Below.refl _ _) (show w.heap.size ≤ w.heap.size + 1 by omega)), (hI9.grown.set_ (p := ⟨w.heap.size + 1, 0, none⟩) (by simp) _).set_ (p := ⟨w.heap.size + 1, 1, none⟩) (by simp) _⟩
end Go.Proofs.Ytnhmhjhfoonakaa
