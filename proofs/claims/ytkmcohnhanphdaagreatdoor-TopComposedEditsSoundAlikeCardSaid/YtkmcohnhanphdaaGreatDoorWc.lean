/- Memory, continued: making, and writing into, rows of the call's own. -/
import Derived.Test.YtkmcohnhanphdaaGreatDoorXa
import Derived.Deep.OwnRows
import Derived.Test.YtkmcohnhanphdaaGreatDoorWb
import Derived.Test.YtkmcohnhanphdaaGreatDoorWa
import Derived.Deep.DeepCutAuto
import Derived.Deep.RegionHeld3
import Derived.Deep.DrawnRows
set_option linter.unusedSimpArgs false
set_option linter.unusedVariables false
namespace Go.Dw
open Go.RowKit
def mk0 (z : Value) (n : Nat) : Array Value := (List.replicate n z).toArray
theorem mk0_list (z : Value) (n : Nat) : (mk0 z n).toList = List.replicate n z := rfl
theorem mk0_size (z : Value) (n : Nat) : (mk0 z n).size = n := by simp [mk0]
theorem run_mk {P : Program} (t e : TypeId) (i : TypeInfo) (z : Value) (ht : P.underlying t = some (.slice e)) (hi : P.info? e = some i) (hz : i.zero = some z) (hsize : i.size = 1) (hz1 : z.cells = #[z]) (n : Nat) (hb : i.bytes * n ≤ 281474976710656) (h63 : n ≤ 9223372036854775807) (w : World) :
    (Instr.makeSlice t (.int .i64 n) (.int .i64 n)).run P w = .ok (.slice (some ⟨w.heap.size, 0, none⟩) n n) (w.alloc (.cells (mk0 z n) e)) := by
  have hb' : (i.bytes : Int) * (n : Int) ≤ 281474976710656 := by
    have h : ((i.bytes * n : Nat) : Int) ≤ 281474976710656 := by omega
    rwa [Int.natCast_mul] at h
  have hr := run_make (P := P) w t e i z ht hi hz .i64 .i64 n n (by omega) (Int.le_refl _) hb' (by omega)
  simp only [Int.toNat_natCast, hsize, Nat.mul_one, hz1] at hr
  rw [hr]
  have he : madeCells #[z] n = mk0 z n := by
    apply Array.ext'
    rw [toList_madeCells_one, mk0_list]
  rw [he]
theorem own_mk (w : World) (base : Nat) (e : TypeId) (z : Value) (n : Nat) (hb : base ≤ w.heap.size) (hn : n ≤ maxLen) : (w.alloc (.cells (mk0 z n) e)).ownsRow base e 1 (.slice (some ⟨w.heap.size, 0, none⟩) n n) n (List.replicate n z) :=
  ⟨by simp, .inr ⟨w.heap.size, n, mk0 z n, rfl, hb, heap_alloc_new w _, Nat.le_refl _, hn, by simp [mk0_size], by rw [mk0_list]; simp⟩⟩
theorem own_far {w : World} {base : Nat} {e : TypeId} {size : Nat} {v : Value} {n : Nat} {xs : List Value} (h : w.ownsRow base e size v n xs) {p : Addr} (hp : v.ownBlock = none ∨ v.ownBlock ≠ some p.block) (u : Value) : (w.setCell p u).ownsRow base e size v n xs := by
  refine ⟨h.1, ?_⟩
  rcases h.2 with h0 | ⟨g, cap, cur, rfl, hg, hh, r⟩
  · exact .inl h0
  · refine .inr ⟨g, cap, cur, rfl, hg, ?_, r⟩
    rw [Below.heap_setCell _ _ _ _ (by simpa [Value.ownBlock] using hp)]
    exact hh
theorem own_ne_blk {w : World} {b : Nat} {e t : TypeId} {s : Nat} {v : Value} {n : Nat} {xs : List Value} {g : Nat} {cs : Array Value} {fr : Nat × Nat} (h : w.ownsRow b e s v n xs) (hg : w.heap[g]? = some (.cells cs t fr)) (hne : e ≠ t) : v.ownBlock ≠ some g := by
  intro he
  rcases h.2 with ⟨rfl, _⟩ | ⟨g', cap, cur, rfl, _, hh, _⟩
  · cases he
  · simp only [Value.ownBlock, Option.some.injEq] at he
    subst he
    rw [hh] at hg
    injection hg with hg
    injection hg with _ ht
    exact hne ht
theorem heap_set2 {w : World} {g : Nat} {o0 o1 v0 v1 : Value} {t : TypeId} (h : w.heap[g]? = some (.cells #[o0, o1] t (0, 0))) : ((w.setCell ⟨g, 0, none⟩ v0).setCell ⟨g, 1, none⟩ v1).heap[g]? = some (.cells #[v0, v1] t (0, 0)) :=
  heap_setCell_same _ g 1 _ t v1 (heap_setCell_same w g 0 _ t v0 h)
theorem OwnRowsL.set_far {w : World} {B : Nat} {v : Value} {xss : List (List Int)} {rows : List Value} (h : OwnRowsL w B v xss rows) {g : Nat} {cs : Array Value} {t : TypeId} {fr : Nat × Nat} (hg : w.heap[g]? = some (.cells cs t fr)) (h1 : 42 ≠ t) (h2 : 3 ≠ t) (j : Nat) (u : Value) : OwnRowsL (w.setCell ⟨g, j, none⟩ u) B v xss rows :=
  ⟨own_far (p := ⟨g, j, none⟩) h.outer (.inr (own_ne_blk h.outer hg h1)) u, fun k r hr => own_far (p := ⟨g, j, none⟩) (h.inner k r hr) (.inr (own_ne_blk (h.inner k r hr) hg h2)) u, h.apart⟩
theorem OwnRowsL.set2_far {w : World} {B : Nat} {v : Value} {xss : List (List Int)} {rows : List Value} (h : OwnRowsL w B v xss rows) {g : Nat} {o0 o1 : Value} {t : TypeId} (hg : w.heap[g]? = some (.cells #[o0, o1] t (0, 0))) (h1 : 42 ≠ t) (h2 : 3 ≠ t) (u0 u1 : Value) : OwnRowsL ((w.setCell ⟨g, 0, none⟩ u0).setCell ⟨g, 1, none⟩ u1) B v xss rows :=
  (h.set_far hg h1 h2 0 u0).set_far (heap_setCell_same w g 0 _ t u0 hg) h1 h2 1 u1
end Go.Dw
/- slices.Clone at []int. -/
namespace Go.Proofs.YtkmcohnhanphdaaGreatDoor
open Go.RowKit Go.Dw
theorem sint_info : (Tryz.prog.info? 3).map (fun i => (i.zero, i.size, i.bytes)) = some (some (.int .i64 0), 1, 8) := by kernel_rfl
theorem ints_info : (Tryz.prog.info? 42).map (fun i => (i.zero, i.size, i.bytes)) = some (some (.slice none 0 0), 1, 24) := by kernel_rfl
end Go.Proofs.YtkmcohnhanphdaaGreatDoor
/- blank | empty: a sound of zeros. -/
namespace Go.Proofs.YtkmcohnhanphdaaGreatDoor
open Go.RowKit Go.Dw
theorem heap2 (w : World) (A B : Obj) : ((w.alloc A).alloc B).heap[w.heap.size]? = some A ∧ ((w.alloc A).alloc B).heap[w.heap.size + 1]? = some B := by
  have h1 : (w.alloc A).heap.size = w.heap.size + 1 := by simp
  refine ⟨?_, ?_⟩
  · rw [Below.heap_alloc _ _ _ (by omega)]; exact heap_alloc_new _ _
  · rw [← h1]; exact heap_alloc_new _ _
end Go.Proofs.YtkmcohnhanphdaaGreatDoor
/- A loop that fills a blank sound of the call's own, element by element. -/
namespace Go.Proofs.YtkmcohnhanphdaaGreatDoor
open Go.RowKit Go.Dw
section
variable {N : Nat} {W : World} {g : Nat} {o0 : Value} {gv n cV : Nat} {rows : List Value} {wr w2 : World} {yss : List (List Int)}
end
end Go.Proofs.YtkmcohnhanphdaaGreatDoor
/- each, once more: the function value may turn a range of blocks (a count and two maps); the state is known at every step. -/
namespace Go.Dw
open Go.RowKit
structure Alt (lo hi : Nat) (w w' : World) : Prop where
  os : w'.os = w.os
  tape : w'.tape = w.tape
  output : w'.output = w.output
  size : w.heap.size ≤ w'.heap.size
  block : ∀ k, k < w.heap.size → (k < lo ∨ hi ≤ k) → w'.heap[k]? = w.heap[k]?
theorem Alt.trans {lo hi : Nat} {a b c : World} (h : Alt lo hi a b) (h' : Alt lo hi b c) : Alt lo hi a c :=
  ⟨h'.os.trans h.os, h'.tape.trans h.tape, h'.output.trans h.output, Nat.le_trans h.size h'.size, fun k hk hc => (h'.block k (Nat.lt_of_lt_of_le hk h.size) hc).trans (h.block k hk hc)⟩
theorem Alt.of_below {lo hi : Nat} {a b : World} (h : Below a.heap.size a b) : Alt lo hi a b := ⟨h.os, h.tape, h.output, h.size, fun k hk _ => h.block k hk⟩
theorem Alt.drew {lo hi : Nat} {a w : World} (h : Alt lo hi a w) : Alt lo hi a w.drew := ⟨h.os, h.tape, h.output, h.size, h.block⟩
theorem Alt.set_ {lo hi : Nat} {a w : World} (h : Alt lo hi a w) {p : Addr} (hp : a.heap.size ≤ p.block) (u : Value) : Alt lo hi a (w.setCell p u) :=
  ⟨h.os, h.tape, h.output, by simpa [World.setCell] using h.size, fun i hi hc => (Below.heap_setCell w p u i (by omega)).trans (h.block i hi hc)⟩
theorem Alt.below {lo hi B : Nat} {a w : World} (h : Alt lo hi a w) (hB : B ≤ a.heap.size) (hlo : B ≤ lo) : Below B a w := ⟨h.os, h.tape, h.output, h.size, fun i hi => h.block i (by omega) (.inl (by omega))⟩
end Go.Dw
namespace Go.Proofs.YtkmcohnhanphdaaGreatDoor
open Go.RowKit Go.Dw
attribute [local go_sem ↓] Go.wp_at_zero Go.wp_at_succ
section
variable {σ : Type} {J : World → σ → Prop} {lo hi : Nat} {w W : World} {g : Nat} {o0 V : Value} {rows : List Value} {wr : World} {s s' : σ} {yss : List (List Int)}
end
end Go.Proofs.YtkmcohnhanphdaaGreatDoor
