/- Clips, of the sound: the sort of spans. -/
import Derived.Test.YtnhmhjhfoonakaaClp
import Derived.Test.YtnhmhjhfoonakaaShelfb
import Derived.Sort.LotA
set_option linter.unusedSimpArgs false
set_option linter.unusedVariables false
namespace Go.Proofs.Ytnhmhjhfoonakaa
open Go.RowKit Go.Dw
def lePr (x y : Pr) : Bool := !(ltOf cmpPr y x)
def sortP (L : List Pr) : List Pr := L.mergeSort lePr
theorem cmpPr_lt (x y : Pr) : ltOf cmpPr x y = decide (x.1 < y.1 ∨ x.1 = y.1 ∧ x.2 < y.2) := by
  unfold ltOf cmpPr orZ Lib.compareInt
  by_cases h1 : x.1 < y.1
  · simp [h1]
  · by_cases h2 : y.1 < x.1
    · have : x.1 ≠ y.1 := by omega
      simp [h1, h2, this]
    · have h3 : x.1 = y.1 := by omega
      by_cases h4 : x.2 < y.2
      · simp [h3, h4]
      · by_cases h5 : y.2 < x.2 <;> simp [h3, h4, h5]
theorem swo_pr : Go.Sort.SWO (ltOf cmpPr) where
  irrefl x := by rw [cmpPr_lt]; simp
  trans x y z h1 h2 := by rw [cmpPr_lt] at *; simp at *; omega
  ntrans x y z h1 h2 := by rw [cmpPr_lt] at *; simp at *; omega
theorem tot_pr (x y : Pr) (h1 : ltOf cmpPr x y = false) (h2 : ltOf cmpPr y x = false) : x = y := by
  rw [cmpPr_lt] at h1 h2
  simp at h1 h2
  obtain ⟨a, b⟩ := x
  obtain ⟨c, d⟩ := y
  simp at *
  omega
theorem sortP_perm (L : List Pr) : (sortP L).Perm L := List.mergeSort_perm _ _
theorem sortP_length (L : List Pr) : (sortP L).length = L.length := (sortP_perm L).length_eq
theorem sortP_sorted (L : List Pr) : (sortP L).Pairwise fun p q => p.1 ≤ q.1 := by
  have h := List.pairwise_mergeSort (le := lePr) (fun a b c h1 h2 => by
    unfold lePr at *
    rw [cmpPr_lt] at *
    simp at *
    omega) (fun a b => by
    unfold lePr
    rw [cmpPr_lt, cmpPr_lt]
    simp
    omega) L
  refine h.imp fun {p q} hpq => ?_
  unfold lePr at hpq
  rw [cmpPr_lt] at hpq
  simp at hpq
  omega
open Go.Sort in
theorem flatK_prs (L : List Pr) : (flatK prC 2 L.toArray).toList = prsC L := by
  apply List.ext_getElem?
  intro t
  by_cases ht : t < L.length * 2
  · have h2 : (prsC L)[t / 2 * 2 + t % 2]? = (prC (prOf L (t / 2)))[t % 2]? := prsC_get (by omega) (by omega)
    rw [show t / 2 * 2 + t % 2 = t by omega] at h2
    rw [h2]
    have h3 : (flatK prC 2 L.toArray)[t]! = (prC (L.toArray[t / 2]!))[t % 2]! := get_flatK prC 2 L.toArray t (by simpa using ht)
    have h4 : t < (flatK prC 2 L.toArray).size := by simpa using ht
    rw [Array.getElem?_toList, Array.getElem?_eq_getElem h4]
    rw [getElem!_pos _ t h4] at h3
    rw [h3]
    have h5 : L.toArray[t / 2]! = prOf L (t / 2) := by
      have : t / 2 < L.length := by omega
      simp [prOf, List.getD, this]
    rw [h5]
    rcases (show t % 2 = 0 ∨ t % 2 = 1 by omega) with hr | hr <;> rw [hr] <;> rfl
  · rw [List.getElem?_eq_none (by simp; omega), List.getElem?_eq_none (by rw [prsC_length]; omega)]
open Go.Sort in
theorem holds_prs {w : World} {g : Nat} {cur : Array Value} {e : TypeId} {L : List Pr} (hb : w.heap[g]? = some (.cells cur e (0, 0))) (ht : cur.toList.take (L.length * 2) = prsC L) : HoldsK prC 2 w g 0 L.toArray := by
  intro j hj
  have hj' : j < L.length * 2 := by simpa using hj
  refine ⟨?_, by simp [World.frozen?, hb]⟩
  have h1 : (cur.toList.take (L.length * 2))[j]? = (flatK prC 2 L.toArray).toList[j]? := by rw [ht, flatK_prs]
  rw [List.getElem?_take_of_lt hj'] at h1
  simp only [World.cell?, hb, Nat.zero_add]
  simp only [Option.isSome_none, Bool.false_eq_true, if_false]
  rw [← Array.getElem?_toList, h1, Array.getElem?_toList, Array.getElem?_eq_getElem hj, getElem!_pos _ j hj]
  rfl
open Go.Sort in
theorem heap_sortedV {w : World} {g n : Nat} {os : Array Obj} {cur : Array Value} {e : TypeId} {fr : Nat × Nat} (d : Array Value) (hb : w.heap[g]? = some (.cells cur e fr)) :
    (grow (putRow id (Sort.ahead w n) g 0 d) os).heap[g]? = some (.cells (putCells id 0 d cur) e fr) := by
  have hg : g < w.heap.size := (Array.getElem?_eq_some_iff.1 hb).1
  rw [heap_grow_old _ _ (by simpa using hg)]
  simp [putRow, mapBlock, Sort.ahead, Array.getElem?_modify, hb, onCells]
open Go.Sort in
theorem grownBy_sortedV {w : World} {g n : Nat} {os : Array Obj} (d : Array Value) : w.grownBy (grow (putRow id (Sort.ahead w n) g 0 d) os) (some g) := by
  refine ⟨rfl, rfl, rfl, by simp, fun k hk hne => ?_⟩
  rw [heap_grow_old _ _ (by simpa using hk)]
  have : g ≠ k := fun e => hne (by rw [e])
  simp [putRow, mapBlock, Sort.ahead, Array.getElem?_modify, this]
open Go.Sort in
theorem take_putCellsV (cur : Array Value) (ts : List Value) (h : ts.length ≤ cur.size) : (putCells id 0 ts.toArray cur).toList.take ts.length = ts := by
  apply List.ext_getElem?
  intro j
  by_cases hj : j < ts.length
  · rw [List.getElem?_take_of_lt hj, Array.getElem?_toList]
    simp [putCells, hj, show j < cur.size by omega]
  · rw [List.getElem?_take_eq_none (by omega), List.getElem?_eq_none (by omega)]
open Go.Sort in
theorem own_sortedP {w : World} {base g cap n : Nat} {os : Array Obj} {cur : Array Value} {L M : List Pr} (hl : M.length = L.length) (hbase : base ≤ g) (hb : w.heap[g]? = some (.cells cur 48 (0, 0))) (h1 : L.length ≤ cap) (h2 : cap ≤ maxLen) (h3 : cur.size = cap * 2) :
    OwnPrs 48 (sortWorldK prC 2 w g 0 n M.toArray os) base (.slice (some ⟨g, 0, none⟩) L.length cap) M := by
  have e : flatK prC 2 M.toArray = (prsC M).toArray := by rw [← flatK_prs]
  unfold OwnPrs sortWorldK putRowK
  rw [e, ← hl]
  refine ⟨prsC_length M, .inr ⟨g, cap, _, rfl, hbase, heap_sortedV _ hb, by omega, h2, by simp [putCells, h3], ?_⟩⟩
  have := take_putCellsV cur (prsC M) (by rw [prsC_length]; omega)
  rw [prsC_length] at this
  exact this
open Go.Sort in
theorem sorted_grown {w : World} {g n : Nat} {os : Array Obj} {M : List Pr} : w.grownBy (sortWorldK prC 2 w g 0 n M.toArray os) (some g) := by
  unfold sortWorldK putRowK
  exact grownBy_sortedV _
set_option maxHeartbeats 1000000 in
theorem SORTSP_own (A : Option Addr) (n c : Nat) (L : List Pr) (w : World) (base : Nat) (hb : base ≤ w.heap.size) (hn : n ≤ 10000000) (h : Hid (OwnPrs 48 w base (.slice A n c) L)) :
    Calls Try.prog 40 #[.slice A n c, .func (.func 41) #[] #[]] w fun e w' => e = .returned (.tuple #[]) ∧ OwnPrs 48 w' base (.slice A n c) (sortP L) ∧ Below base w w' := by
  have hh : w.ownsRow base 48 2 (.slice A n c) L.length (prsC L) := h.out
  rcases hh.2 with ⟨e, h0⟩ | ⟨g, cap, cur, e, hg, hc, h1, h2, h3, h4⟩
  · injection e with e1 e2 e3
    subst e1 e2 e3
    have hl : L = [] := List.eq_nil_of_length_eq_zero h0
    subst hl
    refine (AnyF.slices_SortFunc_none Try.sortSpans none 0 _ w).mono ?_
    rintro e w' ⟨rfl, rfl⟩
    exact ⟨rfl, by simpa [sortP] using h.out, Below.refl _ _⟩
  · injection e with e1 e2 e3
    subst e1 e2 e3
    have hcon := AnyQ.slices_SortFunc_total Try.sortSpans 2 Try.isAgg48 Try.sizeOf48 prC (fun _ => rfl) (fun x v hv => by simp [prC] at hv; rcases hv with rfl | rfl <;> rfl) cmpPr swo_pr 41 #[] g 0 c L.toArray w (enters_of Try.func41 (by kernel_rfl) rfl) (fun m os dk _ x y => CLIPS2_any x y _) (holds_prs hc h4) (blk_lt hc) (by simp; omega) tot_pr
    have e5 : L.toArray.size = L.length := by simp
    rw [e5] at hcon
    refine Calls.mono hcon ?_
    rintro e w' ⟨rfl, q, os, rfl⟩
    exact ⟨rfl, own_sortedP (M := sortP L) (sortP_length L) hg hc h1 h2 h3, (Below.refl base w).grown sorted_grown hb (fun b e => by injection e with e; omega)⟩
end Go.Proofs.Ytnhmhjhfoonakaa
