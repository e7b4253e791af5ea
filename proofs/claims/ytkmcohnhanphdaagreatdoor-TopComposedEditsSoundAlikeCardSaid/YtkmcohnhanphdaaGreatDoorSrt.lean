/- Sort and Compact of a row of the call's own. -/
import Derived.Test.YtkmcohnhanphdaaGreatDoorShelf
import Derived.Test.YtkmcohnhanphdaaGreatDoorZc
import Derived.Sort.OwnSortedInts
set_option linter.unusedSimpArgs false
set_option linter.unusedVariables false
namespace Go.Proofs.YtkmcohnhanphdaaGreatDoor
open Go.RowKit Go.Dw Go.Sort Go.Lib
def leI (x y : Int) : Bool := decide (x ≤ y)
theorem OwnI.block {w : World} {base n c : Nat} {A : Option Addr} {l : List Int} (h : OwnI w base (.slice A n c) l) (h0 : 0 < l.length) : ∃ g cur, A = some ⟨g, 0, none⟩ ∧ n = l.length ∧ base ≤ g ∧ w.heap[g]? = some (.cells cur 3 (0, 0)) ∧ l.length ≤ c ∧ c ≤ maxLen ∧ cur.size = c * 1 ∧ cur.toList.take l.length = l.map (Value.int .i64) := by
  have hh : w.ownsRow base 3 1 (.slice A n c) l.length (l.map (Value.int .i64)) := h
  rcases hh.2 with ⟨_, h1⟩ | ⟨g, cap, cur, hv, hb, hhp, h1, h2, h3, h4⟩
  · omega
  · injection hv with e1 e2 e3
    subst e1 e2 e3
    exact ⟨g, cur, rfl, rfl, hb, hhp, h1, h2, h3, by simpa using h4⟩
theorem own_prefix {w : World} {base g n m cap : Nat} {E : TypeId} {xs : List Value} (h : w.ownsRow base E 1 (.slice (some ⟨g, 0, none⟩) n cap) n xs) (hm : m ≤ n) : w.ownsRow base E 1 (.slice (some ⟨g, 0, none⟩) m cap) m (xs.take m) := by
  rcases h with ⟨hl, ⟨e, _⟩ | ⟨g2, cap2, cur, e, hb, hh, h1, h2, h3, h4⟩⟩
  · injection e with e; cases e
  · injection e with e1 e2 e3
    injection e1 with e1
    injection e1 with e1
    subst e1 e3
    refine ⟨by rw [List.length_take]; omega, .inr ⟨g, cap, cur, rfl, hb, hh, by omega, h2, h3, ?_⟩⟩
    rw [← h4, List.take_take, show min m (n * 1) = m * 1 by omega]
set_option maxHeartbeats 1000000 in
theorem SORT_own (A : Option Addr) (n c : Nat) (l : List Int) (w : World) (base : Nat) (hb : base ≤ w.heap.size) (hn : l.length ≤ 1000000) (h : Hid (OwnI w base (.slice A n c) l)) :
    Calls Tryz.prog 141 #[.slice A n c] w fun e w' => e = .returned (.tuple #[]) ∧ OwnI w' base (.slice A n c) (l.mergeSort leI) ∧ Below base w w' := by
  rcases Nat.eq_zero_or_pos l.length with h0 | h0
  · have hl : l = [] := List.eq_nil_of_length_eq_zero h0
    subst hl
    obtain ⟨A', c', e, _, _⟩ := h.out.len
    injection e with e1 e2 e3
    subst e1 e2 e3
    refine (Tryz.slices_Sort_int_none A c w).mono ?_
    rintro e w' ⟨rfl, rfl⟩
    exact ⟨rfl, by simpa using h.out, Below.refl _ _⟩
  · obtain ⟨g, cur, rfl, rfl, hg, hh, h1, h2, h3, h4⟩ := h.out.block h0
    refine (Tryz.slices_Sort_int g 0 c l w (holds_of_blockI hh h4) (blk_lt hh) (by omega)).mono ?_
    rintro e w' ⟨rfl, q, os, rfl⟩
    refine ⟨rfl, ?_, ?_⟩
    · unfold OwnI
      rw [List.length_mergeSort]
      exact ownsRow_sortedI (by rw [List.length_mergeSort]) hg hh h1 h2 h3
    · exact (Below.refl base w).grown (grownBy_sortedI _) hb (fun b e => by injection e with e; omega)
theorem compact_len (l : List Int) : (Lib.compact l).length ≤ l.length := by
  unfold Lib.compact compactUpTo
  rw [List.length_map]
  exact Nat.le_trans (List.length_filter_le _ _) (by simp)
set_option maxHeartbeats 1000000 in
theorem COMPACT_own (A : Option Addr) (n c : Nat) (l : List Int) (w : World) (base : Nat) (hb : base ≤ w.heap.size) (hn : l.length ≤ 1000000) (h : Hid (OwnI w base (.slice A n c) l)) :
    Calls Tryz.prog 142 #[.slice A n c] w fun e w' => ∃ v, e = .returned v ∧ OwnI w' base v (Lib.compact l) ∧ Below base w w' := by
  rcases Nat.eq_zero_or_pos l.length with h0 | h0
  · have hl : l = [] := List.eq_nil_of_length_eq_zero h0
    subst hl
    obtain ⟨A', c', e, _, _⟩ := h.out.len
    injection e with e1 e2 e3
    subst e1 e2 e3
    refine (Tryz.slices_Compact_int_empty A c w).mono ?_
    rintro e w' ⟨rfl, rfl⟩
    exact ⟨_, rfl, by simpa [Lib.compact, compactUpTo] using h.out, Below.refl _ _⟩
  · obtain ⟨g, cur, rfl, rfl, hg, hh, h1, h2, h3, h4⟩ := h.out.block h0
    refine (Tryz.slices_Compact_int g 0 c l w (holds_of_blockI hh h4) (by omega) h1).mono ?_
    rintro e w' ⟨rfl, q, rfl⟩
    have hcl := compact_len l
    have e1 : (Lib.compact l ++ List.replicate (l.length - (Lib.compact l).length) 0).length = l.length := by simp; omega
    refine ⟨_, rfl, ?_, ?_⟩
    · have := own_prefix (ownsRow_sortedI (w := w) (n := q) (os := #[]) (base := base) (ss := l) e1 hg hh h1 h2 h3) hcl
      rw [grow_empty] at this
      unfold OwnI
      rw [← List.map_take, List.take_left] at this
      exact this
    · have := (Below.refl base w).grown (grownBy_sortedI (n := q) (os := #[]) (g := g) (w := w) (Lib.compact l ++ List.replicate (l.length - (Lib.compact l).length) 0).toArray) hb (fun b e => by injection e with e; omega)
      rw [grow_empty] at this
      exact this
theorem keeps_mem (d : Array Int) : ∀ (m : Nat), m ≤ d.size → (∀ z, z ∈ compactUpTo d m ↔ ∃ j, j < m ∧ d[j]! = z)
  | 0, _, z => by simp [compactUpTo]
  | m + 1, hm, z => by
    rw [compactUpTo_succ, List.mem_append, keeps_mem d m (by omega) z]
    constructor
    · rintro (⟨j, hj, e⟩ | h)
      · exact ⟨j, by omega, e⟩
      · by_cases hk : keeps d m = true
        · rw [if_pos hk] at h; simp at h; exact ⟨m, by omega, by rw [h]⟩
        · rw [if_neg hk] at h; cases h
    · rintro ⟨j, hj, e⟩
      by_cases hjm : j < m
      · exact .inl ⟨j, hjm, e⟩
      · have : j = m := by omega
        subst this
        by_cases hk : keeps d j = true
        · rw [if_pos hk]; exact .inr (by simp [e])
        · left
          have h0 : j ≠ 0 := fun h0 => hk (by subst h0; exact keeps_lt_one d 0 (by omega))
          have h1 : d[j]! = d[j - 1]! := by
            by_cases q : d[j]! = d[j - 1]!
            · exact q
            · exact absurd (keeps_pos q) hk
          exact ⟨j - 1, by omega, by rw [← h1]; exact e⟩
theorem keeps_inc (d : Array Int) (hs : ∀ i j, i < j → j < d.size → d[i]! ≤ d[j]!) : ∀ (m : Nat), m ≤ d.size → (compactUpTo d m).Pairwise (· < ·)
  | 0, _ => by simp [compactUpTo]
  | m + 1, hm => by
    rw [compactUpTo_succ, List.pairwise_append]
    refine ⟨keeps_inc d hs m (by omega), by split <;> simp, fun a ha b hb => ?_⟩
    by_cases hk : keeps d m = true
    · rw [if_pos hk] at hb
      simp at hb
      subst hb
      obtain ⟨j, hj, rfl⟩ := (keeps_mem d m (by omega) a).1 ha
      have hne : d[m]! ≠ d[m - 1]! := by
        unfold keeps at hk
        simp at hk
        rcases hk with hk | hk
        · omega
        · simpa using hk
      have h1 := hs (m - 1) m (by omega) (by omega)
      have h2 : d[j]! ≤ d[m - 1]! := by
        by_cases q : j = m - 1
        · rw [q]; exact Int.le_refl _
        · exact hs j (m - 1) (by omega) (by omega)
      omega
    · rw [if_neg hk] at hb; cases hb
theorem ends_sorted (l : List Int) : Lib.compact (l.mergeSort leI) = endsL l := by
  have hp : (l.mergeSort leI).Perm l := List.mergeSort_perm l leI
  have hs : (l.mergeSort leI).Pairwise (fun a b => leI a b = true) := List.pairwise_mergeSort (fun a b c h1 h2 => by unfold leI at *; simp at *; omega) (fun a b => by unfold leI; simp; omega) l
  generalize l.mergeSort leI = s at hp hs
  have hs2 : ∀ i j, i < j → j < s.toArray.size → s.toArray[i]! ≤ s.toArray[j]! := fun i j hij hj => by
    have hj' : j < s.length := by simpa using hj
    have := List.pairwise_iff_getElem.1 hs i j (by omega) hj' hij
    unfold leI at this
    simp [getElem!_pos, hj', show i < s.length by omega] at this ⊢
    exact this
  refine inc_ext _ _ ?_ (endsL_lt _) (fun z => ?_)
  · exact keeps_inc s.toArray hs2 s.length (by simp)
  · rw [endsL_mem, ← hp.mem_iff]
    unfold Lib.compact
    rw [keeps_mem s.toArray s.length (by simp) z]
    constructor
    · rintro ⟨j, hj, rfl⟩
      simp [getElem!_pos, hj]
    · intro hz
      obtain ⟨j, hj, rfl⟩ := List.getElem_of_mem hz
      exact ⟨j, hj, by simp [getElem!_pos, hj]⟩
end Go.Proofs.YtkmcohnhanphdaaGreatDoor
