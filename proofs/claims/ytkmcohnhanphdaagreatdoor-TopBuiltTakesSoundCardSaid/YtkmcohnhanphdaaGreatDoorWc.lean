/- Memory, continued: making, and writing into, rows of the call's own. -/
import Derived.Test.YtkmcohnhanphdaaGreatDoorMem
import Derived.Deep.OwnRows
import Derived.Test.YtkmcohnhanphdaaGreatDoorWb
import Derived.Test.YtkmcohnhanphdaaGreatDoorRegion
import Derived.Test.YtkmcohnhanphdaaGreatDoorWa
import Derived.Deep.DeepCutAuto
import Derived.Deep.RegionHeld3
import Derived.Deep.DrawnRows
set_option linter.unusedSimpArgs false
set_option linter.unusedVariables false
namespace Go.Dw
open Go.RowKit

def mk0 (z : Value) (n : Nat) : Array Value := (List.replicate n z).toArray
theorem mk0_list (z : Value) (n : Nat) : (mk0 z n).toList = List.replicate n z := rfl
theorem mk0_size (z : Value) (n : Nat) : (mk0 z n).size = n := by simp [mk0]
theorem run_mk {P : Program} (t e : TypeId) (i : TypeInfo) (z : Value) (ht : P.underlying t = some (.slice e)) (hi : P.info? e = some i) (hz : i.zero = some z) (hsize : i.size = 1) (hz1 : z.cells = #[z]) (n : Nat) (hb : i.bytes * n ≤ 281474976710656) (h63 : n ≤ 9223372036854775807) (w : World) :
    (Instr.makeSlice t (.int .i64 n) (.int .i64 n)).run P w = .ok (.slice (some ⟨w.heap.size, 0, none⟩) n n) (w.alloc (.cells (mk0 z n) e)) := by
  have hb' : (i.bytes : Int) * (n : Int) ≤ 281474976710656 := by
    have h : ((i.bytes * n : Nat) : Int) ≤ 281474976710656 := by omega
    rwa [Int.natCast_mul] at h
  have hr := run_make (P := P) w t e i z ht hi hz .i64 .i64 n n (by omega) (Int.le_refl _) hb' (by omega)
  simp only [Int.toNat_natCast, hsize, Nat.mul_one, hz1] at hr
  rw [hr]
  have he : madeCells #[z] n = mk0 z n := by
    apply Array.ext'
    rw [toList_madeCells_one, mk0_list]
  rw [he]
theorem own_mk (w : World) (base : Nat) (e : TypeId) (z : Value) (n : Nat) (hb : base ≤ w.heap.size) (hn : n ≤ maxLen) : (w.alloc (.cells (mk0 z n) e)).ownsRow base e 1 (.slice (some ⟨w.heap.size, 0, none⟩) n n) n (List.replicate n z) :=
  ⟨by simp, .inr ⟨w.heap.size, n, mk0 z n, rfl, hb, heap_alloc_new w _, Nat.le_refl _, hn, by simp [mk0_size], by rw [mk0_list]; simp⟩⟩

theorem own_far {w : World} {base : Nat} {e : TypeId} {size : Nat} {v : Value} {n : Nat} {xs : List Value} (h : w.ownsRow base e size v n xs) {p : Addr} (hp : v.ownBlock = none ∨ v.ownBlock ≠ some p.block) (u : Value) : (w.setCell p u).ownsRow base e size v n xs := by
  refine ⟨h.1, ?_⟩
  rcases h.2 with h0 | ⟨g, cap, cur, rfl, hg, hh, r⟩
  · exact .inl h0
  · refine .inr ⟨g, cap, cur, rfl, hg, ?_, r⟩
    rw [Below.heap_setCell _ _ _ _ (by simpa [Value.ownBlock] using hp)]
    exact hh
theorem own_slot {w : World} {base : Nat} {e : TypeId} {v : Value} {n : Nat} {xs : List Value} (h : w.ownsRow base e 1 v n xs) (hn : 0 < n) : ∃ g cap, v = .slice (some ⟨g, 0, none⟩) n cap ∧ base ≤ g ∧ g < w.heap.size ∧ n ≤ cap ∧ cap ≤ maxLen ∧ (∀ j, j < n → w.cell? ⟨g, j, none⟩ = xs[j]? ∧ w.frozen? ⟨g, j, none⟩ = false) := by
  rcases h.2 with ⟨rfl, rfl⟩ | ⟨g, cap, cur, rfl, hb, hh, h1, h2, _⟩
  · omega
  · exact ⟨g, cap, rfl, hb, (Array.getElem?_eq_some_iff.1 hh).1, h1, h2, fun j hj => ⟨h.cellAt j (by omega), h.frozenAt j⟩⟩

theorem rowOf_set (xss : List (List Int)) (k j : Nat) (xs : List Int) (hk : k < xss.length) : rowOf (xss.set k xs) j = if j = k then xs else rowOf xss j := by
  unfold rowOf
  by_cases h : j = k
  · subst h; simp [List.getD, hk]
  · rw [if_neg h]
    simp [List.getD, List.getElem?_set_ne (Ne.symm h)]

/-- row k is replaced by a row that is new -/
theorem OwnRowsL.setRow {w0 w : World} {B : Nat} {g k cap n : Nat} {r : Value} {xss : List (List Int)} {xs : List Int} {rows : List Value} (h : OwnRowsL w0 B (.slice (some ⟨g, 0, none⟩) n cap) xss rows) (hb : Below w0.heap.size w0 w) (hB : B ≤ w0.heap.size)
    (hr : w.ownsRow w0.heap.size 3 1 r xs.length (xs.map (Value.int .i64))) (hk : k < xss.length) : OwnRowsL (w.setCell ⟨g, k, none⟩ r) B (.slice (some ⟨g, 0, none⟩) n cap) (xss.set k xs) (rows.set k r) := by
  have hl : rows.length = xss.length := by simpa using h.outer.1
  have hw := h.below hb
  have hn : n = xss.length := by
    obtain ⟨A, c, e, _, _⟩ := own_form h.outer
    injection e
  subst hn
  refine ⟨?_, fun j q hq => ?_, fun i j q q' hij hi hj => ?_⟩
  · rw [List.length_set]
    exact (hw.outer.stored k r).1
  · rw [rowOf_set _ _ _ _ hk]
    by_cases hjk : j = k
    · subst hjk
      rw [if_pos rfl]
      rw [List.getElem?_set_self (by omega)] at hq
      injection hq with hq
      subst hq
      exact own_far (p := ⟨g, j, none⟩) (own_base hr hB) (own_ne hr hw.outer (by decide)) _
    · rw [if_neg hjk]
      rw [List.getElem?_set_ne (Ne.symm hjk)] at hq
      exact own_far (p := ⟨g, k, none⟩) (hw.inner j q hq) (own_ne (hw.inner j q hq) hw.outer (by decide)) _
  · have new : ∀ (i : Nat) (q : Value), rows[i]? = some q → q.ownBlock = none ∨ (q.ownBlock ≠ r.ownBlock) := by
      intro i q hq
      cases e : q.ownBlock with
      | none => exact .inl rfl
      | some b =>
        refine .inr fun e' => ?_
        have h1 := own_lt (h.inner i q hq) e
        have h2 := own_lt hr e'.symm
        omega
    by_cases hik : i = k
    · subst hik
      rw [List.getElem?_set_self (by omega)] at hi
      injection hi with hi
      subst hi
      rw [List.getElem?_set_ne (by omega)] at hj
      rcases new j q' hj with h1 | h1
      · cases e : r.ownBlock with
        | none => exact .inl rfl
        | some b => rw [h1]; exact .inr (by simp)
      · exact .inr (Ne.symm h1)
    · rw [List.getElem?_set_ne (Ne.symm hik)] at hi
      by_cases hjk : j = k
      · subst hjk
        rw [List.getElem?_set_self (by omega)] at hj
        injection hj with hj
        subst hj
        exact new i q hi
      · rw [List.getElem?_set_ne (Ne.symm hjk)] at hj
        exact h.apart i j q q' hij hi hj

/-- element j of row k is written -/
theorem OwnRowsL.setEl {w : World} {B : Nat} {v : Value} {k j b cap m : Nat} {y : Int} {xss : List (List Int)} {rows : List Value} (h : OwnRowsL w B v xss rows) (hr : rows[k]? = some (.slice (some ⟨b, 0, none⟩) m cap)) :
    OwnRowsL (w.setCell ⟨b, j, none⟩ (.int .i64 y)) B v (xss.set k ((rowOf xss k).set j y)) rows := by
  have hl : rows.length = xss.length := by simpa using h.outer.1
  have hk : k < xss.length := by have := (List.getElem?_eq_some_iff.1 hr).1; omega
  have hin := h.inner k _ hr
  have hm : m = (rowOf xss k).length := by
    obtain ⟨A, c, e, _, _⟩ := own_form hin
    injection e
  subst hm
  refine ⟨?_, fun i q hq => ?_, h.apart⟩
  · rw [List.length_set]
    refine own_far (p := ⟨b, j, none⟩) h.outer ?_ _
    rcases own_ne h.outer hin (by decide) with h1 | h1
    · exact .inl h1
    · exact .inr (by simpa [Value.ownBlock] using h1)
  · rw [rowOf_set _ _ _ _ hk]
    by_cases hik : i = k
    · subst hik
      rw [if_pos rfl]
      rw [hr] at hq
      injection hq with hq
      subst hq
      have := (hin.stored j (.int .i64 y)).1
      rw [List.length_set, List.map_set]
      exact this
    · rw [if_neg hik]
      refine own_far (p := ⟨b, j, none⟩) (h.inner i q hq) ?_ _
      rcases Nat.lt_or_gt_of_ne hik with hlt | hlt
      · rcases h.apart i k q _ hlt hq hr with h1 | h1
        · exact .inl h1
        · exact .inr (by simpa [Value.ownBlock] using h1)
      · rcases h.apart k i _ q hlt hr hq with h1 | h1
        · simp [Value.ownBlock] at h1
        · exact .inr (by simpa [Value.ownBlock] using Ne.symm h1)
/-- an outer row of zeros: all rows nil -/
theorem OwnRowsL.nils (w : World) (B n : Nat) (hB : B ≤ w.heap.size) (hn : n ≤ maxLen) : OwnRowsL (w.alloc (.cells (mk0 (.slice none 0 0) n) 42)) B (.slice (some ⟨w.heap.size, 0, none⟩) n n) (List.replicate n []) (List.replicate n (.slice none 0 0)) := by
  refine ⟨by simpa using own_mk w B 42 (.slice none 0 0) n hB hn, fun k r hr => ?_, fun i j r r' _ hr _ => ?_⟩
  · have hk : k < n := by have := (List.getElem?_eq_some_iff.1 hr).1; simpa using this
    obtain rfl : Value.slice none 0 0 = r := by simpa [hk] using hr
    have : rowOf (List.replicate n []) k = [] := by simp [rowOf, List.getD, hk]
    rw [this]
    exact World.ownsRow_nil _ _ _ _
  · have hk : i < n := by have := (List.getElem?_eq_some_iff.1 hr).1; simpa using this
    obtain rfl : Value.slice none 0 0 = r := by simpa [hk] using hr
    exact .inl rfl
theorem OwnRowsL.row {w : World} {B : Nat} {v : Value} {xss : List (List Int)} {rows : List Value} (h : OwnRowsL w B v xss rows) {k : Nat} (hk : k < xss.length) : ∃ r, rows[k]? = some r ∧ w.ownsRow B 3 1 r (rowOf xss k).length ((rowOf xss k).map (Value.int .i64)) := by
  have hl : rows.length = xss.length := by simpa using h.outer.1
  exact ⟨rows[k]'(by omega), List.getElem?_eq_getElem (by omega), h.inner k _ (List.getElem?_eq_getElem (by omega))⟩
theorem heap3 (w : World) (A B C : Obj) : (((w.alloc A).alloc B).alloc C).heap[w.heap.size]? = some A ∧ (((w.alloc A).alloc B).alloc C).heap[w.heap.size + 1]? = some B ∧ (((w.alloc A).alloc B).alloc C).heap[w.heap.size + 1 + 1]? = some C := by
  have h1 : (w.alloc A).heap.size = w.heap.size + 1 := by simp
  have h2 : ((w.alloc A).alloc B).heap.size = w.heap.size + 1 + 1 := by simp
  refine ⟨?_, ?_, ?_⟩
  · rw [Below.heap_alloc _ _ _ (by omega), Below.heap_alloc _ _ _ (by omega)]; exact heap_alloc_new _ _
  · rw [Below.heap_alloc _ _ _ (by omega), ← h1]; exact heap_alloc_new _ _
  · rw [← h2]; exact heap_alloc_new _ _
theorem OwnRowsL.alloc {w : World} {B : Nat} {v : Value} {xss : List (List Int)} {rows : List Value} (h : OwnRowsL w B v xss rows) (o : Obj) : OwnRowsL (w.alloc o) B v xss rows := h.below ((Below.refl _ _).alloc (Nat.le_refl _) o)
theorem OwnRowsL.drew {w : World} {B : Nat} {v : Value} {xss : List (List Int)} {rows : List Value} (h : OwnRowsL w B v xss rows) : OwnRowsL w.drew B v xss rows := ⟨h.outer, h.inner, h.apart⟩
theorem OwnRowsL.far {w : World} {B : Nat} {v : Value} {xss : List (List Int)} {rows : List Value} (h : OwnRowsL w B v xss rows) {p : Addr} (hp : p.block < B) (u : Value) : OwnRowsL (w.setCell p u) B v xss rows := h.set_below hp u
/-- a block of another element type is not that of an owned row -/
theorem own_ne_blk {w : World} {b : Nat} {e t : TypeId} {s : Nat} {v : Value} {n : Nat} {xs : List Value} {g : Nat} {cs : Array Value} {fr : Nat × Nat} (h : w.ownsRow b e s v n xs) (hg : w.heap[g]? = some (.cells cs t fr)) (hne : e ≠ t) : v.ownBlock ≠ some g := by
  intro he
  rcases h.2 with ⟨rfl, _⟩ | ⟨g', cap, cur, rfl, _, hh, _⟩
  · cases he
  · simp only [Value.ownBlock, Option.some.injEq] at he
    subst he
    rw [hh] at hg
    injection hg with hg
    injection hg with _ ht
    exact hne ht
/-- two cells of a block written -/
theorem heap_set2 {w : World} {g : Nat} {o0 o1 v0 v1 : Value} {t : TypeId} (h : w.heap[g]? = some (.cells #[o0, o1] t (0, 0))) : ((w.setCell ⟨g, 0, none⟩ v0).setCell ⟨g, 1, none⟩ v1).heap[g]? = some (.cells #[v0, v1] t (0, 0)) :=
  heap_setCell_same _ g 1 _ t v1 (heap_setCell_same w g 0 _ t v0 h)
theorem OwnRowsL.set_far {w : World} {B : Nat} {v : Value} {xss : List (List Int)} {rows : List Value} (h : OwnRowsL w B v xss rows) {g : Nat} {cs : Array Value} {t : TypeId} {fr : Nat × Nat} (hg : w.heap[g]? = some (.cells cs t fr)) (h1 : 42 ≠ t) (h2 : 3 ≠ t) (j : Nat) (u : Value) : OwnRowsL (w.setCell ⟨g, j, none⟩ u) B v xss rows :=
  ⟨own_far (p := ⟨g, j, none⟩) h.outer (.inr (own_ne_blk h.outer hg h1)) u, fun k r hr => own_far (p := ⟨g, j, none⟩) (h.inner k r hr) (.inr (own_ne_blk (h.inner k r hr) hg h2)) u, h.apart⟩
theorem OwnRowsL.set2_far {w : World} {B : Nat} {v : Value} {xss : List (List Int)} {rows : List Value} (h : OwnRowsL w B v xss rows) {g : Nat} {o0 o1 : Value} {t : TypeId} (hg : w.heap[g]? = some (.cells #[o0, o1] t (0, 0))) (h1 : 42 ≠ t) (h2 : 3 ≠ t) (u0 u1 : Value) : OwnRowsL ((w.setCell ⟨g, 0, none⟩ u0).setCell ⟨g, 1, none⟩ u1) B v xss rows :=
  (h.set_far hg h1 h2 0 u0).set_far (heap_setCell_same w g 0 _ t u0 hg) h1 h2 1 u1
theorem OwnRowsL.kept {w w' : World} {B : Nat} {v : Value} {xss : List (List Int)} {rows : List Value} {row : Option Nat} (h : OwnRowsL w B v xss rows) (hg : w.grownBy w' row) (hr : ∀ k, row = some k → k < B) : OwnRowsL w' B v xss rows := by
  have ne : ∀ {e : TypeId} {q : Value} {n : Nat} {xs : List Value}, w.ownsRow B e 1 q n xs → q.ownBlock = none ∨ q.ownBlock ≠ row := by
    intro e q n xs hq
    cases hb : q.ownBlock with
    | none => exact .inl rfl
    | some b =>
      refine .inr fun e => ?_
      have := own_lt hq hb
      have := hr b e.symm
      omega
  exact ⟨h.outer.kept hg (ne h.outer), fun k r hk => (h.inner k r hk).kept hg (ne (h.inner k r hk)), h.apart⟩
theorem grownBy_below {a w : World} (h : Below a.heap.size a w) (row : Option Nat) : a.grownBy w row := ⟨h.os, h.tape, h.output, h.size, fun i hi _ => h.block i hi⟩
theorem grownBy_trans {a b c : World} {row : Option Nat} (h : a.grownBy b row) (k : b.grownBy c row) : a.grownBy c row := h.trans k
theorem grownBy_set {a w : World} {row : Option Nat} (h : a.grownBy w row) {p : Addr} (hp : a.heap.size ≤ p.block) (u : Value) : a.grownBy (w.setCell p u) row :=
  ⟨h.os, h.tape, h.output, by simpa [World.setCell] using h.size, fun i hi hne => (Below.heap_setCell w p u i (by omega)).trans (h.block i hi hne)⟩
theorem grownBy_drew {a w : World} {row : Option Nat} (h : a.grownBy w row) : a.grownBy w.drew row := ⟨h.os, h.tape, h.output, h.size, h.block⟩
theorem grownBy_undrew {a w : World} {row : Option Nat} (h : a.drew.grownBy w row) : a.grownBy w row := ⟨h.os, h.tape, h.output, h.size, h.block⟩
theorem grown_below {a w : World} {row : Option Nat} {B : Nat} (h : a.grownBy w row) (hB : B ≤ a.heap.size) (hr : ∀ k, row = some k → B ≤ k) : Below B a w := (Below.refl B a).grown h hB hr
end Go.Dw

/- slices.Clone at []int. -/
set_option linter.unusedSimpArgs false
set_option linter.unusedVariables false
namespace Go.Proofs.YtkmcohnhanphdaaGreatDoor
open Go.RowKit Go.Dw

theorem sint_info : (Tryz.prog.info? 3).map (fun i => (i.zero, i.size, i.bytes)) = some (some (.int .i64 0), 1, 8) := by kernel_rfl
theorem ints_info : (Tryz.prog.info? 42).map (fun i => (i.zero, i.size, i.bytes)) = some (some (.slice none 0 0), 1, 24) := by kernel_rfl

set_option maxHeartbeats 400000 in
theorem CLONE_any (A : Option Addr) (n c : Nat) (xs : List Int) (w : World) (B : Nat) (h : IntsAt w B A n xs) (hn : n ≤ 1000000000) (hB : B ≤ w.heap.size) :
    Calls Tryz.prog 43 #[.slice A n c] w fun e w' => (∃ A' c', e = .returned (.slice A' n c') ∧ w'.ownsRow w.heap.size 3 1 (.slice A' n c') n (xs.map (Value.int .i64))) ∧ Below w.heap.size w w' := by
  have hnil := fun (W : World) (a : Option Addr) (l c : Nat) => Lib.run_eql_slice_nil (P := Tryz.prog) W 42 3 a l c 0 0 Tryz.underlying42
  cases A with
  | none =>
    have hn0 : n = 0 := by
      rcases Nat.eq_zero_or_pos n with h0 | h0
      · exact h0
      · obtain ⟨ad, e⟩ := h.addr h0
        cases e
    subst hn0
    obtain rfl : xs = [] := List.eq_nil_of_length_eq_zero h.1
    go_enter Tryz.func43, Tryz.ntmps43
    go_wp2
    go_ret
    exact ⟨⟨_, _, rfl, World.ownsRow_nil _ _ _ _⟩, Below.refl _ _⟩
  | some ad =>
    have hr := Lib.hid h.reads
    clear h
    obtain ⟨i0, hi0, hz0, hz1, hz2⟩ := info_parts sint_info
    go_enter Tryz.func43, Tryz.ntmps43
    go_wp2_with (at_builtin; refine wpList_append_any _ rfl (.tmp 5) (.tmp 6) _ rfl w.heap.size 3 i0 _ 1 8 Tryz.underlying42 hi0 hz0 hz1 hz2 rfl (by omega) (.slice (some ⟨w.heap.size, 0, none⟩) 0 0) 0 [] rfl (World.ownsRow_made w #[] 0 (Nat.le_refl _) (Nat.zero_le _) rfl) B (some ad) n c _ rfl (hr.out.alloc hB _) (ones xs) (by simp only [maxLen]; omega) (by omega) (by simp) ?_; intro v1 w1 hown1 hg1 hat1)
    go_ret
    obtain ⟨A1, c1, rfl, _, _⟩ := own_form hown1
    exact ⟨⟨A1, c1, by simp, by simpa using hown1⟩, ((Below.refl _ _).alloc (Nat.le_refl _) _).trans ((Below.refl _ _).grown hg1 (by simp) (by simp [Value.ownBlock]))⟩
end Go.Proofs.YtkmcohnhanphdaaGreatDoor

/- blank | empty: a sound of zeros. -/
set_option linter.unusedSimpArgs false
set_option linter.unusedVariables false
namespace Go.Proofs.YtkmcohnhanphdaaGreatDoor
open Go.RowKit Go.Dw

set_option maxRecDepth 100000 in
set_option maxHeartbeats 1000000 in
theorem BLANK_any (r : Int) (T n : Nat) (hT : T ≤ 1000000) (hn : n ≤ 1000000) (w : World) :
    Calls Tryz.prog 40 #[.int .i64 r, .int .i64 T, .int .i64 n] w (OutS1 w r (zeroS T n)) := by
  obtain ⟨i0, hi0, hi1, hi2, hi3⟩ := info_parts ints_info
  obtain ⟨j0, hj0, hj1, hj2, hj3⟩ := info_parts sint_info
  have hmk := run_mk (P := Tryz.prog) 31 42 i0 _ Tryz.underlying31 hi0 hi1 hi2 rfl T (by rw [hi3]; omega) (by omega)
  have hmi := run_mk (P := Tryz.prog) 42 3 j0 _ Tryz.underlying42 hj0 hj1 hj2 rfl n (by rw [hj3]; omega) (by omega)
  clear hi0 hi1 hi2 hi3 hj0 hj1 hj2 hj3
  go_enter Tryz.func40, Tryz.ntmps40
  go_wp2_with fail
  go_loopw [16] (fun i wr => ∃ (k : Nat) (rows : List Value), k ≤ T ∧ i = .int .i64 k ∧ Hid (Below w.heap.size w wr) ∧ Hid (wr.heap[w.heap.size]? = some (.cells #[.int .i64 0, .slice none 0 0] 33 (0, 0))) ∧ Hid (wr.heap[w.heap.size + 1 + 1]? = some (.cells #[.int .i64 r, .slice (some ⟨w.heap.size + 1, 0, none⟩) T T] 33 (0, 0))) ∧ Hid (OwnRowsL wr (w.heap.size + 1) (.slice (some ⟨w.heap.size + 1, 0, none⟩) T T) (zeroK T n k) rows)) (fun i _ => T - (intOf i).toNat)
  case atStart =>
    have h3 := heap3 w (.cells #[.int .i64 0, .slice none 0 0] 33) (.cells (mk0 (.slice none 0 0) T) 42) (.cells #[.int .i64 r, .slice (some ⟨w.heap.size + 1, 0, none⟩) T T] 33)
    refine ⟨0, List.replicate T (.slice none 0 0), Nat.zero_le _, rfl, (((Below.refl _ _).alloc (Nat.le_refl _) _).alloc (by simp) _).alloc (by simp; omega) _, h3.1, h3.2.2, ?_⟩
    have h4 := (OwnRowsL.nils (w.alloc (.cells #[.int .i64 0, .slice none 0 0] 33)) (w.heap.size + 1) T (by simp) (by simp only [maxLen]; omega)).alloc (.cells #[.int .i64 r, .slice (some ⟨w.heap.size + 1, 0, none⟩) T T] 33)
    show OwnRowsL _ _ _ _ _
    rw [zeroK_start]
    simpa using h4
  case round =>
    obtain ⟨k, rows, hk, rfl, hb, hres, hbox, hL⟩ := hrel
    by_cases hlt : k < T
    · have hg7 : w.heap.size + 1 + 1 < wr.heap.size := blk_lt hbox.out
      have hk0 : (0 : Int) ≤ (k : Int) := by omega
      have hkn : (k : Int) < (T : Int) := by omega
      have hcr := own_cell1 hbox.out 1
      simp at hcr
      go_wp2_with fail
      have hS : wr.drew.heap[w.heap.size + 1 + 1]? = some (.cells #[.int .i64 r, .slice (some ⟨w.heap.size + 1, 0, none⟩) T T] 33 (0, 0)) ∧ wr.drew.cell? ⟨w.heap.size + 1 + 1, 1, none⟩ = some (.slice (some ⟨w.heap.size + 1, 0, none⟩) T T) := ⟨hbox.out, own_cell1 hbox.out 1⟩
      refine wp_region_head 5 (fun w' => w'.heap[w.heap.size + 1 + 1]? = some (.cells #[.int .i64 r, .slice (some ⟨w.heap.size + 1, 0, none⟩) T T] 33 (0, 0)) ∧ w'.cell? ⟨w.heap.size + 1 + 1, 1, none⟩ = some (.slice (some ⟨w.heap.size + 1, 0, none⟩) T T)) (by kernel_rfl) (by kernel_rfl) ?_
      refine HL.take (i := 0) (oi := _) (v := ?_) rfl (by kernel_rfl) (by kernel_rfl) (by decide) (fun _ _ _ h => h) (Or.inl ⟨by rfl, ?_⟩) hS ?_
      rotate_left
      · intro wz hwz
        try dsimp only at hwz
        go_simp
        try with_reducible rfl
      simp only [Act.put, List.setIfInBounds_toArray, List.set_cons_zero, List.set_cons_succ]
      refine HL.take (i := 1) (oi := _) (v := ?_) rfl (by kernel_rfl) (by kernel_rfl) (by decide) (fun _ _ _ h => h) (Or.inl ⟨by rfl, ?_⟩) hS ?_
      rotate_left
      · intro wz hwz
        try dsimp only at hwz
        go_simp
        try with_reducible rfl
      simp only [Act.put, List.setIfInBounds_toArray, List.set_cons_zero, List.set_cons_succ]
      refine HL.take (i := 2) (oi := _) (v := ?_) rfl (by kernel_rfl) (by kernel_rfl) (by decide) (fun _ _ _ h => h) (Or.inl ⟨by rfl, ?_⟩) hS ?_
      rotate_left
      · intro wz hwz
        try dsimp only at hwz
        go_simp
        try with_reducible rfl
      simp only [Act.put, List.setIfInBounds_toArray, List.set_cons_zero, List.set_cons_succ]
      refine HL.take (i := 3) (oi := _) (v := ?_) rfl (by kernel_rfl) (by kernel_rfl) (by decide) (fun _ _ _ h => h) (Or.inl ⟨by rfl, ?_⟩) hS ?_
      rotate_left
      · intro wz hwz
        try dsimp only at hwz
        go_simp
        try with_reducible rfl
      simp only [Act.put, List.setIfInBounds_toArray, List.set_cons_zero, List.set_cons_succ]
      refine HL.one (i := 4) (o := _) rfl (by kernel_rfl) (by decide) (by rfl) ?_
      intro K hK
      go_simp
      refine hK.out _ _ ⟨(Below.heap_alloc _ _ _ (by simpa using hg7)).trans hbox.out, own_cell1 ((Below.heap_alloc _ _ _ (by simpa using hg7)).trans hbox.out) 1⟩ ?_
      try simp only [Act.put, List.setIfInBounds_toArray, List.set_cons_zero, List.set_cons_succ]
      clear hK K hS
      refine HL.done (by kernel_rfl) ?_
      simp only [List.drop_succ_cons, List.drop_zero]
      obtain ⟨rk, hrk, _⟩ := hL.out.row (k := k) (by rw [zeroK_length hk]; exact hlt)
      have hout := hL.out.outer
      rw [zeroK_length hk] at hout
      have hck := (hout.cellAt k (by omega)).trans hrk
      have hfk := hout.frozenAt k
      have hg1 : w.heap.size + 1 < wr.heap.size := by omega
      clear hrk hcr hout
      go_wp2
      have HL' := Lib.hid (hL.out.setRow (w := wr.alloc (.cells (mk0 (.int .i64 0) n) 3)) (r := .slice (some ⟨wr.heap.size, 0, none⟩) n n) (xs := List.replicate n 0) (k := k) ((Below.refl _ _).alloc (Nat.le_refl _) _) (by omega) (by simpa using own_mk wr wr.heap.size 3 (.int .i64 0) n (Nat.le_refl _) (by simp only [maxLen]; omega)) (by rw [zeroK_length hk]; exact hlt))
      go_roundw
      case rel =>
        have HL2 := HL'.out
        rw [World.setCell_alloc_past _ _ _ _ hg1, zeroK_step hlt] at HL2
        have hgg : w.heap.size < (wr.setCell ⟨w.heap.size + 1, k, none⟩ (.slice (some ⟨wr.heap.size, 0, none⟩) n n)).heap.size := by simp; omega
        have hgg2 : w.heap.size + 1 + 1 < (wr.setCell ⟨w.heap.size + 1, k, none⟩ (.slice (some ⟨wr.heap.size, 0, none⟩) n n)).heap.size := by simp; omega
        refine ⟨k + 1, rows.set k (.slice (some ⟨wr.heap.size, 0, none⟩) n n), by omega, by go_num, ?_, ?_, ?_, ?_⟩
        · exact ((hb.out.setCell (p := ⟨w.heap.size + 1, k, none⟩) (by simp) _).alloc (by omega) _).drew
        · show _ = _
          exact (Below.heap_alloc _ _ _ hgg).trans ((Below.heap_setCell _ _ _ _ (by simp)).trans hres.out)
        · show _ = _
          exact (Below.heap_alloc _ _ _ hgg2).trans ((Below.heap_setCell _ _ _ _ (by simp)).trans hbox.out)
        · exact HL2.drew
      case measure => simp [intOf]; omega
    · obtain rfl : k = T := by omega
      have hcr0 := own_cell1 hres.out 0
      have hcr1 := own_cell1 hres.out 1
      have hcb0 := own_cell1 hbox.out 0
      have hcb1 := own_cell1 hbox.out 1
      have hf0 := frozen_of_row wr w.heap.size 0 _ _ hres.out
      have hf1 := frozen_of_row wr w.heap.size 1 _ _ hres.out
      simp at hcr0 hcr1 hcb0 hcb1
      go_wp2
      refine end_snd1 rfl rfl rfl hcr0 hcr1 ?_
      refine ⟨_, rfl, ⟨rows, ?_⟩, set2_below hb.out (Nat.le_refl _)⟩
      have h1 := hL.out
      rw [zeroK_end] at h1
      exact ((h1.set_below (p := ⟨w.heap.size, 0, none⟩) (by simp) _).set_below (p := ⟨w.heap.size, 1, none⟩) (by simp) _).base (by omega)

theorem heap2 (w : World) (A B : Obj) : ((w.alloc A).alloc B).heap[w.heap.size]? = some A ∧ ((w.alloc A).alloc B).heap[w.heap.size + 1]? = some B := by
  have h1 : (w.alloc A).heap.size = w.heap.size + 1 := by simp
  refine ⟨?_, ?_⟩
  · rw [Below.heap_alloc _ _ _ (by omega)]; exact heap_alloc_new _ _
  · rw [← h1]; exact heap_alloc_new _ _
theorem rep_snoc (k n : Nat) : zeroS k n ++ [List.replicate n 0] = zeroS (k + 1) n := by
  unfold zeroS
  rw [List.replicate_succ']

end Go.Proofs.YtkmcohnhanphdaaGreatDoor

/- A loop that fills a blank sound of the call's own, element by element. -/
set_option linter.unusedSimpArgs false
set_option linter.unusedVariables false
namespace Go.Proofs.YtkmcohnhanphdaaGreatDoor
open Go.RowKit Go.Dw

/-- what holds at every element's head: the sound lies in the box g, its rows read as yss -/
structure FillI (N : Nat) (W : World) (g : Nat) (o0 : Value) (gv n cV : Nat) (rows : List Value) (wr : World) (yss : List (List Int)) : Prop where
  below : Below N W wr
  box : wr.heap[g]? = some (.cells #[o0, .slice (some ⟨gv, 0, none⟩) n cV] 33 (0, 0))
  own : OwnRowsL wr N (.slice (some ⟨gv, 0, none⟩) n cV) yss rows
  ge : N ≤ g
section
variable {N : Nat} {W : World} {g : Nat} {o0 : Value} {gv n cV : Nat} {rows : List Value} {wr w2 : World} {yss : List (List Int)}
theorem FillI.drew (h : FillI N W g o0 gv n cV rows wr yss) : FillI N W g o0 gv n cV rows wr.drew yss := ⟨h.below.drew, h.box, h.own.drew, h.ge⟩
theorem FillI.drewN (h : FillI N W g o0 gv n cV rows wr yss) (q : Nat) : FillI N W g o0 gv n cV rows (wr.drewN q) yss := ⟨belowN h.below q, h.box, ⟨h.own.outer, h.own.inner, h.own.apart⟩, h.ge⟩
theorem FillI.next (h : FillI N W g o0 gv n cV rows wr yss) (hN : N ≤ W.heap.size) (hb : Below wr.heap.size wr w2) : FillI N W g o0 gv n cV rows w2 yss :=
  ⟨Below.next h.below hN hb, (hb.block g (blk_lt h.box)).trans h.box, h.own.below hb, h.ge⟩
theorem FillI.set_ (h : FillI N W g o0 gv n cV rows wr yss) {k b m cap : Nat} (hr : rows[k]? = some (.slice (some ⟨b, 0, none⟩) m cap)) (j : Nat) (y : Int) :
    FillI N W g o0 gv n cV rows (wr.setCell ⟨b, j, none⟩ (.int .i64 y)) (yss.set k ((rowOf yss k).set j y)) := by
  have hin := h.own.inner k _ hr
  have hb : N ≤ b := (own_lt hin rfl).1
  have hne : b ≠ g := fun e => own_ne_blk hin h.box (by decide) (by rw [e]; rfl)
  exact ⟨h.below.setCell (p := ⟨b, j, none⟩) hb _, (Below.heap_setCell _ _ _ _ (by simp; omega)).trans h.box, h.own.setEl hr, h.ge⟩
theorem FillI.put {Y : List (List Int)} {m k j b cap : Nat} {y : Int} (h : FillI N W g o0 gv n cV rows wr (partK Y m k j)) (hr : rows[k]? = some (.slice (some ⟨b, 0, none⟩) m cap)) (hk : k < Y.length) (hl : (rowOf Y k).length = m) (hj : j < m) (hy : elOf (rowOf Y k) j = y) :
    FillI N W g o0 gv n cV rows (wr.setCell ⟨b, j, none⟩ (.int .i64 y)) (partK Y m k (j + 1)) := by
  have := h.set_ hr j y
  rwa [partK_set hk hl hj hy] at this
theorem FillI.slot (h : FillI N W g o0 gv n cV rows wr yss) {k m : Nat} (hk : k < yss.length) (hm : (rowOf yss k).length = m) (h0 : 0 < m) : ∃ b cap, rows[k]? = some (.slice (some ⟨b, 0, none⟩) m cap) ∧ m ≤ cap ∧ cap ≤ maxLen ∧ n = yss.length ∧ n ≤ cV ∧ cV ≤ maxLen := by
  obtain ⟨r, h1, h2⟩ := h.own.row hk
  rw [hm] at h2
  obtain ⟨b, cap, rfl, _, _, h3, h4, _⟩ := own_slot h2 h0
  obtain ⟨A, c, e, h5, h6⟩ := own_form h.own.outer
  injection e with e1 e2 e3
  exact ⟨b, cap, h1, h3, h4, e2, by omega, by omega⟩
/-- what a walk reads: the sound's rows, the row, its element; it may be written -/
theorem FillI.cells (h : FillI N W g o0 gv n cV rows wr yss) {k b m cap : Nat} (hr : rows[k]? = some (.slice (some ⟨b, 0, none⟩) m cap)) : wr.cell? ⟨g, 1, none⟩ = some (.slice (some ⟨gv, 0, none⟩) n cV) ∧ wr.cell? ⟨gv, k, none⟩ = some (.slice (some ⟨b, 0, none⟩) m cap) := by
  have hk : k < rows.length := (List.getElem?_eq_some_iff.1 hr).1
  have hn : n = yss.length := by
    obtain ⟨A, c, e, _, _⟩ := own_form h.own.outer
    injection e
  have ho := h.own.outer
  rw [← hn] at ho
  have hl := ho.1
  exact ⟨own_cell1 h.box 1, (ho.cellAt k (by omega)).trans hr⟩
theorem FillI.elem (h : FillI N W g o0 gv n cV rows wr yss) {k b m cap j : Nat} (hr : rows[k]? = some (.slice (some ⟨b, 0, none⟩) m cap)) (hj : j < m) : (∃ vo, wr.cell? ⟨b, j, none⟩ = some vo) ∧ wr.frozen? ⟨b, j, none⟩ = false := by
  have hin := h.own.inner k _ hr
  have hm : m = (rowOf yss k).length := by
    obtain ⟨A, c, e, _, _⟩ := own_form hin
    injection e
  subst hm
  exact ⟨⟨_, (hin.cellAt j (by omega)).trans (List.getElem?_eq_getElem (by simp; exact hj))⟩, hin.frozenAt j⟩
end
/-- a blank sound is put into a new box -/
theorem FillI.start {N : Nat} {W w : World} {o0 : Value} {A : Option Addr} {n c T m : Nat} {yss : List (List Int)} (hy : yss.length = T) (hb : Below N W w) (hN : N ≤ w.heap.size) (ho : OwnRows w N (.slice A n c) (zeroS T m)) (hT : 0 < T) :
    ∃ gv rows, A = some ⟨gv, 0, none⟩ ∧ n = T ∧ FillI N W w.heap.size o0 gv n c rows (w.alloc (.cells #[o0, .slice A n c] 33)) (partK yss m 0 0) := by
  rw [partK_start, hy]
  obtain ⟨rows, hL⟩ := ho
  have h1 := hL.outer
  rw [zeroS_length] at h1
  obtain ⟨gv, cap, e, _⟩ := own_slot h1 hT
  injection e with e1 e2 e3
  subst e1 e2
  exact ⟨gv, rows, rfl, rfl, hb.alloc hN _, heap_alloc_new _ _, hL.alloc _, hN⟩
end Go.Proofs.YtkmcohnhanphdaaGreatDoor

/- each, once more: the function value may turn a range of blocks (a count and two maps); the state is known at every step. -/
set_option linter.unusedSimpArgs false
set_option linter.unusedVariables false
namespace Go.Dw
open Go.RowKit
/-- all blocks stay but those from lo to below hi -/
structure Alt (lo hi : Nat) (w w' : World) : Prop where
  os : w'.os = w.os
  tape : w'.tape = w.tape
  output : w'.output = w.output
  size : w.heap.size ≤ w'.heap.size
  block : ∀ k, k < w.heap.size → (k < lo ∨ hi ≤ k) → w'.heap[k]? = w.heap[k]?
theorem Alt.trans {lo hi : Nat} {a b c : World} (h : Alt lo hi a b) (h' : Alt lo hi b c) : Alt lo hi a c :=
  ⟨h'.os.trans h.os, h'.tape.trans h.tape, h'.output.trans h.output, Nat.le_trans h.size h'.size, fun k hk hc => (h'.block k (Nat.lt_of_lt_of_le hk h.size) hc).trans (h.block k hk hc)⟩
theorem Alt.of_below {lo hi : Nat} {a b : World} (h : Below a.heap.size a b) : Alt lo hi a b := ⟨h.os, h.tape, h.output, h.size, fun k hk _ => h.block k hk⟩
theorem Alt.of_grown {lo hi : Nat} {a b : World} {g : Nat} (h : a.grownBy b (some g)) (h1 : lo ≤ g) (h2 : g < hi) : Alt lo hi a b := ⟨h.os, h.tape, h.output, h.size, fun k hk hc => h.block k hk (by intro e; injection e with e; omega)⟩
theorem Alt.drew {lo hi : Nat} {a w : World} (h : Alt lo hi a w) : Alt lo hi a w.drew := ⟨h.os, h.tape, h.output, h.size, h.block⟩
theorem Alt.set_ {lo hi : Nat} {a w : World} (h : Alt lo hi a w) {p : Addr} (hp : a.heap.size ≤ p.block) (u : Value) : Alt lo hi a (w.setCell p u) :=
  ⟨h.os, h.tape, h.output, by simpa [World.setCell] using h.size, fun i hi hc => (Below.heap_setCell w p u i (by omega)).trans (h.block i hi hc)⟩
theorem Alt.below {lo hi B : Nat} {a w : World} (h : Alt lo hi a w) (hB : B ≤ a.heap.size) (hlo : B ≤ lo) : Below B a w := ⟨h.os, h.tape, h.output, h.size, fun i hi => h.block i (by omega) (.inl (by omega))⟩
theorem own_keepN {w w' : World} {B size n : Nat} {e : TypeId} {v : Value} {xs : List Value} (h : w.ownsRow B e size v n xs) (hb : ∀ k, B ≤ k → k < w.heap.size → w'.heap[k]? = w.heap[k]?) : w'.ownsRow B e size v n xs := by
  refine ⟨h.1, ?_⟩
  rcases h.2 with h0 | ⟨g, cap, cur, hv, hg, hh, r⟩
  · exact .inl h0
  · exact .inr ⟨g, cap, cur, hv, hg, (hb g hg (Array.getElem?_eq_some_iff.1 hh).1).trans hh, r⟩
theorem OwnRowsL.keepN {w w' : World} {B : Nat} {v : Value} {xss : List (List Int)} {rows : List Value} (h : OwnRowsL w B v xss rows) (hb : ∀ k, B ≤ k → k < w.heap.size → w'.heap[k]? = w.heap[k]?) : OwnRowsL w' B v xss rows :=
  ⟨own_keepN h.outer hb, fun k r hr => own_keepN (h.inner k r hr) hb, h.apart⟩
end Go.Dw
namespace Go.Proofs.YtkmcohnhanphdaaGreatDoor
open Go.RowKit Go.Dw
attribute [local go_sem ↓] Go.wp_at_zero Go.wp_at_succ

/-- what holds at every element's head -/
structure EachB {σ : Type} (J : World → σ → Prop) (lo hi : Nat) (w W : World) (g : Nat) (o0 V : Value) (rows : List Value) (wr : World) (s : σ) (yss : List (List Int)) : Prop where
  grown : Alt lo hi w wr
  boxes : ∀ j, w.heap.size ≤ j → j < w.heap.size + 2 → wr.heap[j]? = W.heap[j]?
  box : wr.heap[g]? = some (.cells #[o0, V] 33 (0, 0))
  own : OwnRowsL wr (w.heap.size + 2) V yss rows
  st : J wr s
section
variable {σ : Type} {J : World → σ → Prop} {lo hi : Nat} {w W : World} {g : Nat} {o0 V : Value} {rows : List Value} {wr : World} {s s' : σ} {yss : List (List Int)}
theorem EachB.drew (h : EachB J lo hi w W g o0 V rows wr s yss) (hst : ∀ w1 w2 s, J w1 s → Below w.heap.size w1 w2 → J w2 s) : EachB J lo hi w W g o0 V rows wr.drew s yss :=
  ⟨h.grown.drew, h.boxes, h.box, h.own.drew, hst _ _ _ h.st (Below.refl _ _).drew⟩
theorem EachB.call (h : EachB J lo hi w W g o0 V rows wr s yss) (hhi : hi ≤ w.heap.size) (hg : w.heap.size + 2 ≤ g) {w2 : World} (hc : Alt lo hi wr w2) (hJ : J w2 s') : EachB J lo hi w W g o0 V rows w2 s' yss := by
  have hgr := blk_lt h.box
  have hsz := h.grown.size
  refine ⟨h.grown.trans hc, fun j h1 h2 => ?_, ?_, h.own.keepN (fun k hk1 hk2 => hc.block k hk2 (.inr (by omega))), hJ⟩
  · exact (hc.block j (by omega) (.inr (by omega))).trans (h.boxes j h1 h2)
  · exact (hc.block g hgr (.inr (by omega))).trans h.box
theorem EachB.set_ (h : EachB J lo hi w W g o0 V rows wr s yss) (hst : ∀ w1 w2 s, J w1 s → Below w.heap.size w1 w2 → J w2 s) {k j b m cap : Nat} {y : Int} (hr : rows[k]? = some (.slice (some ⟨b, 0, none⟩) m cap)) : EachB J lo hi w W g o0 V rows (wr.setCell ⟨b, j, none⟩ (.int .i64 y)) s (yss.set k ((rowOf yss k).set j y)) := by
  have hin := h.own.inner k _ hr
  have hb : w.heap.size + 2 ≤ b := (own_lt hin rfl).1
  have hne : b ≠ g := fun e => own_ne_blk hin h.box (by decide) (by rw [e]; rfl)
  refine ⟨h.grown.set_ (by simp; omega) _, fun i h1 h2 => ?_, ?_, h.own.setEl hr, hst _ _ _ h.st ((Below.refl _ _).setCell (p := ⟨b, j, none⟩) (by simp; omega) _)⟩
  · exact (Below.heap_setCell _ _ _ _ (by simp; omega)).trans (h.boxes i h1 h2)
  · exact (Below.heap_setCell _ _ _ _ (by simp; omega)).trans h.box
end

end Go.Proofs.YtkmcohnhanphdaaGreatDoor
