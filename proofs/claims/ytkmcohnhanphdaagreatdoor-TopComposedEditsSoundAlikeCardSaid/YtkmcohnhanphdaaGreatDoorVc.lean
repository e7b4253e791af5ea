/- Rows of records of k cells each, of the call's own. -/
import Derived.Test.YtkmcohnhanphdaaGreatDoorXa
import Derived.Test.YtkmcohnhanphdaaGreatDoorWc
import Derived.IntWalk
import Derived.OwnWalk
import Derived.Deep.OwnRows
import Derived.Deep.AppendLies
import Derived.Laws.OwnMore
import Derived.Test.YtkmcohnhanphdaaGreatDoorNqd
import Derived.Test.YtkmcohnhanphdaaGreatDoorYj
import Derived.Test.YtkmcohnhanphdaaGreatDoorWd
import Derived.Test.YtkmcohnhanphdaaGreatDoorVb
set_option linter.unusedSimpArgs false
set_option linter.unusedVariables false
namespace Go.Proofs.YtkmcohnhanphdaaGreatDoor
open Go.RowKit Go.Dw
def recOf (ls : List (List Value)) (i : Nat) : List Value := ls.getD i []
theorem rec_mem {ls : List (List Value)} {i : Nat} (h : i < ls.length) : recOf ls i ∈ ls := by simp [recOf, List.getD, List.getElem?_eq_getElem h]
theorem flat_length {k : Nat} : ∀ {ls : List (List Value)}, (∀ l ∈ ls, l.length = k) → ls.flatten.length = ls.length * k
  | [], _ => by simp
  | l :: ls, h => by
    rw [List.flatten_cons, List.length_append, flat_length (fun x hx => h x (List.mem_cons_of_mem _ hx)), h l (List.mem_cons_self ..), List.length_cons, Nat.succ_mul]; omega
theorem flat_get {k : Nat} : ∀ {ls : List (List Value)} {i j : Nat}, (∀ l ∈ ls, l.length = k) → i < ls.length → j < k → ls.flatten[i * k + j]? = (recOf ls i)[j]?
  | l :: ls, 0, j, h, _, hj => by
    have hl := h l (List.mem_cons_self ..)
    rw [List.flatten_cons, List.getElem?_append_left (by omega)]; simp [recOf]
  | l :: ls, i + 1, j, h, hi, hj => by
    have hl := h l (List.mem_cons_self ..)
    have hm : (i + 1) * k = i * k + k := Nat.succ_mul i k
    rw [List.flatten_cons, List.getElem?_append_right (by omega), hl]
    have : (i + 1) * k + j - k = i * k + j := by omega
    rw [this, flat_get (fun x hx => h x (List.mem_cons_of_mem _ hx)) (by simpa using hi) hj]
    simp [recOf]
theorem flat_set {k : Nat} {y : Value} : ∀ {ls : List (List Value)} {i j : Nat}, (∀ l ∈ ls, l.length = k) → i < ls.length → j < k → ls.flatten.set (i * k + j) y = (ls.set i ((recOf ls i).set j y)).flatten
  | l :: ls, 0, j, h, _, hj => by
    have hl := h l (List.mem_cons_self ..)
    rw [List.flatten_cons, Nat.zero_mul, Nat.zero_add, List.set_append_left _ _ (by omega)]
    simp [recOf]
  | l :: ls, i + 1, j, h, hi, hj => by
    have hl := h l (List.mem_cons_self ..)
    have hm : (i + 1) * k = i * k + k := Nat.succ_mul i k
    rw [List.flatten_cons, List.set_append_right _ _ (by omega), hl]
    have : (i + 1) * k + j - k = i * k + j := by omega
    rw [this, flat_set (fun x hx => h x (List.mem_cons_of_mem _ hx)) (by simpa using hi) hj]
    simp [recOf]
def OwnK (k : Nat) (E : TypeId) (w : World) (base : Nat) (v : Value) (ls : List (List Value)) : Prop := (∀ l ∈ ls, l.length = k) ∧ w.ownsRow base E k v ls.length ls.flatten
section
variable {k : Nat} {E : TypeId} {w w' : World} {base : Nat} {v : Value} {ls : List (List Value)}
theorem OwnK.nil (k : Nat) (E : TypeId) (w : World) (base : Nat) : OwnK k E w base (.slice none 0 0) [] := ⟨fun l h => by simp at h, World.ownsRow_nil _ _ _ _⟩
theorem OwnK.below (h : OwnK k E w base v ls) (hb : Below w.heap.size w w') : OwnK k E w' base v ls := ⟨h.1, own_below h.2 hb⟩
theorem OwnK.form (h : OwnK k E w base v ls) : ∃ A c, v = .slice A ls.length c ∧ ls.length ≤ c ∧ c ≤ maxLen := own_form h.2
theorem OwnK.to_base {base' : Nat} (h : OwnK k E w base v ls) (hb : base' ≤ base) : OwnK k E w base' v ls := ⟨h.1, own_base h.2 hb⟩
theorem OwnK.alloc (h : OwnK k E w base v ls) (o : Obj) : OwnK k E (w.alloc o) base v ls := h.below ((Below.refl _ _).alloc (Nat.le_refl _) o)
theorem OwnK.slot (h : OwnK k E w base v ls) (h0 : 0 < ls.length) (hk : 0 < k) : ∃ g cap, v = .slice (some ⟨g, 0, none⟩) ls.length cap ∧ base ≤ g ∧ g < w.heap.size ∧ ls.length ≤ cap ∧ cap ≤ maxLen ∧
    ∀ i, i < ls.length → ∀ j u, (recOf ls i)[j]? = some u → w.cell? ⟨g, i * k + j, none⟩ = some u ∧ w.frozen? ⟨g, i * k + j, none⟩ = false := by
  have hh := h.2
  have hfl := flat_length h.1
  rcases hh.2 with ⟨_, h1⟩ | ⟨g, cap, cur, rfl, hb, hhp, h1, h2, _⟩
  · rw [h1] at hfl
    have : 0 < ls.length * k := Nat.mul_pos h0 hk
    simp at hfl; omega
  · refine ⟨g, cap, rfl, hb, (Array.getElem?_eq_some_iff.1 hhp).1, h1, h2, fun i hi j u hu => ⟨?_, hh.frozenAt _⟩⟩
    have hj : j < k := by rw [← h.1 _ (rec_mem hi)]; exact (List.getElem?_eq_some_iff.1 hu).1
    have hlt : i * k + j < ls.length * k := by
      have : (i + 1) * k ≤ ls.length * k := Nat.mul_le_mul_right k hi
      rw [Nat.succ_mul] at this; omega
    rw [hh.cellAt _ hlt, flat_get h.1 hi hj, hu]
theorem OwnK.set {g n cap i j : Nat} (h : OwnK k E w base (.slice (some ⟨g, 0, none⟩) n cap) ls) (hi : i < ls.length) (hj : j < k) (y : Value) :
    OwnK k E (w.setCell ⟨g, i * k + j, none⟩ y) base (.slice (some ⟨g, 0, none⟩) n cap) (ls.set i ((recOf ls i).set j y)) := by
  have hn' : n = ls.length := by
    obtain ⟨A', c', e, _, _⟩ := own_form h.2
    injection e
  subst hn'
  refine ⟨fun l hl => ?_, ?_⟩
  · rcases List.mem_or_eq_of_mem_set hl with h1 | rfl
    · exact h.1 l h1
    · rw [List.length_set]; exact h.1 _ (rec_mem hi)
  · have h1 := (h.2.stored (i * k + j) y).1
    rw [flat_set h.1 hi hj] at h1
    rw [List.length_set]
    exact h1
theorem OwnK.far (h : OwnK k E w base v ls) {p : Addr} (hp : p.block < base) (u : Value) : OwnK k E (w.setCell p u) base v ls := ⟨h.1, ownsRow_setCell_below h.2 hp u⟩
theorem OwnK.snoc (h : OwnK k E w base v ls) {v2 : Value} {l : List Value} (hl : l.length = k) (h2 : w'.ownsRow base E k v2 (ls.length + 1) (ls.flatten ++ l)) : OwnK k E w' base v2 (ls ++ [l]) := by
  refine ⟨fun x hx => ?_, ?_⟩
  · rcases List.mem_append.1 hx with h1 | h1
    · exact h.1 x h1
    · rw [List.mem_singleton.1 h1]; exact hl
  · rw [List.length_append, List.flatten_append]; simpa using h2
end
end Go.Proofs.YtkmcohnhanphdaaGreatDoor
/- num.Rat.Add at quotients that need not be in lowest terms. -/
namespace Go.Proofs.YtkmcohnhanphdaaGreatDoor
open Go.RowKit Go.Dw
theorem raw_add (z z' : Int) {x x' : Nat} (h : 0 < x) (h' : 0 < x') : mkRat z x + mkRat z' x' = mkRat (z * x' + z' * x) (x * x') := Rat.mkRat_add_mkRat z z' (by omega) (by omega)
theorem raw_add_same (z z' : Int) {x x' : Nat} (h : 0 < x) (e : x = x') : mkRat z x + mkRat z' x' = mkRat (z + z') x := by
  subst e
  rw [raw_add z z' h h, ← Int.add_mul]
  exact Rat.mkRat_mul_right (by omega)
set_option maxRecDepth 100000 in
set_option maxHeartbeats 4000000 in
theorem QADD_raw (neg neg' : Bool) (A A' D D' : Option Addr) (n c m d n' c' m' d' : Nat) (z z' : Int) (x x' : Nat) (hx9 : 0 < x) (hx9' : 0 < x') (hn : n ≤ 10000000) (hm : m ≤ 10000000) (hn' : n' ≤ 10000000) (hm' : m' ≤ 10000000) (w : World) (B : Nat) (hB : B ≤ w.heap.size) (hh : Hid (RawAt w B neg A n c D m d z x)) (hh' : Hid (RawAt w B neg' A' n' c' D' m' d' z' x')) :
    Calls Tryz.prog 72 #[.agg #[.bool neg, .slice A n c, .slice D m d], .agg #[.bool neg', .slice A' n' c', .slice D' m' d']] w (OutQ w (mkRat z x + mkRat z' x') (max (n + m') (n' + m) + 1) (m + m')) := by
  obtain ⟨W, gx, hW, hgx, HHW, HBX, HSW⟩ := boxes3 w (.cells #[.bool neg, .slice A n c, .slice D m d] 88) (.cells #[.bool neg', .slice A' n' c', .slice D' m' d'] 88) (.cells #[.bool false, .slice none 0 0, .slice none 0 0] 88)
  have HGX := Lib.hid hgx
  obtain ⟨x0, x1, x2, _, _, _⟩ := three_cells HHW.out.1
  obtain ⟨y0, y1, y2, _, _, _⟩ := three_cells HHW.out.2.1
  have HHR := Lib.hid HHW.out.2.2
  have hgw := blk_lt HHW.out.2.2
  have HRW := Lib.hid (hh.out.to HBX.out hB (by have := HSW.out; omega))
  have HRW' := Lib.hid (hh'.out.to HBX.out hB (by have := HSW.out; omega))
  have HBX0 := Lib.hid (HBX.out.size)
  obtain ⟨k, hk⟩ : ∃ k, cmpN x x' = k := ⟨_, rfl⟩
  have HK := Lib.hid hk
  clear hk
  go_enter Tryz.func72, Tryz.ntmps72
  go_upto_region 1 with (fail)
  rw [← hW, ← hgx]
  clear hW hgx
  go_wp2_with fail
  refine (NCMP_below D D' m d _ m' d' _ _ W.heap.size (Lib.hid HRW.out.2) (Lib.hid HRW'.out.2)).mono ?_
  rintro e w0 ⟨rfl, hb0⟩
  rw [HK.out]
  obtain ⟨x0, x1, x2, y0, y1, y2⟩ := six_keep (And.intro x0 (And.intro x1 (And.intro x2 (And.intro y0 (And.intro y1 y2))))) hb0 (by omega) (by omega)
  have HHR := Lib.hid ((hb0.block (gx + 1 + 1) hgw).trans HHR.out)
  have hgw := Nat.lt_of_lt_of_le hgw hb0.size
  have HRW := Lib.hid (HRW.out.to hb0 (Nat.le_refl _) hb0.size)
  have HRW' := Lib.hid (HRW'.out.to hb0 (Nat.le_refl _) hb0.size)
  have HBX := Lib.hid (HBX.out.trans (hb0.mono HBX0.out))
  have HBX0 := Lib.hid HBX.out.size
  clear hb0 HHW HSW
  obtain ⟨W, rfl⟩ : ∃ Wx : World, Wx = w0 := ⟨_, rfl⟩
  have hm0 : 0 < m := (HRW.out.2.pos_iff (by omega)).2 hx9
  have hm0' : 0 < m' := (HRW'.out.2.pos_iff (by omega)).2 hx9'
  by_cases hden : x = x'
  · obtain rfl : k = 0 := by rw [← HK.out]; exact cmpN_eq hden
    have HDEN := Lib.hid hden
    clear hden
    go_upto_region 2 with (fail)
    obtain ⟨W, rfl⟩ : ∃ Wx : World, Wx = W := ⟨_, rfl⟩
    refine wp_region_text 8 (fun x => x.cell? ⟨gx, 0, none⟩ = some (.bool neg) ∧ x.cell? ⟨gx, 1, none⟩ = some (.slice A n c) ∧ x.cell? ⟨gx, 2, none⟩ = some (.slice D m d) ∧ x.cell? ⟨gx + 1, 0, none⟩ = some (.bool neg') ∧ x.cell? ⟨gx + 1, 1, none⟩ = some (.slice A' n' c') ∧ x.cell? ⟨gx + 1, 2, none⟩ = some (.slice D' m' d')) (by kernel_rfl) (by kernel_rfl) ?_
    have hS : W.drew.cell? ⟨gx, 0, none⟩ = some (.bool neg) ∧ W.drew.cell? ⟨gx, 1, none⟩ = some (.slice A n c) ∧ W.drew.cell? ⟨gx, 2, none⟩ = some (.slice D m d) ∧ W.drew.cell? ⟨gx + 1, 0, none⟩ = some (.bool neg') ∧ W.drew.cell? ⟨gx + 1, 1, none⟩ = some (.slice A' n' c') ∧ W.drew.cell? ⟨gx + 1, 2, none⟩ = some (.slice D' m' d') := ⟨x0, x1, x2, y0, y1, y2⟩
    have hS0 := And.intro x0 (And.intro x1 (And.intro x2 (And.intro y0 (And.intro y1 y2))))
    refine HT.take (i := 0) (oi := _) (v := ?_) rfl (by kernel_rfl) (by kernel_rfl) (by decide) (fun _ _ _ h => h) (Or.inl ⟨by rfl, ?_⟩) hS ?_
    rotate_left
    · intro wz
      go_simp
      try with_reducible rfl
    simp only [zA, zB, zC, Act.put, zD, zE, zF]
    refine HT.load (i := 1) (oi := _) (v := ?_) rfl (by kernel_rfl) (by kernel_rfl) (by decide) (fun _ _ _ h => h) (by kernel_rfl) (Or.inl ⟨by rfl, ?_⟩) hS ?_
    rotate_left
    · intro wz hwz
      try dsimp only at hwz
      go_simp
      try with_reducible rfl
    simp only [zA, zB, zC, Act.put, zD, zE, zF]
    refine HT.take (i := 2) (oi := _) (v := ?_) rfl (by kernel_rfl) (by kernel_rfl) (by decide) (fun _ _ _ h => h) (Or.inl ⟨by rfl, ?_⟩) hS ?_
    rotate_left
    · intro wz
      go_simp
      try with_reducible rfl
    simp only [zA, zB, zC, Act.put, zD, zE, zF]
    refine HT.load (i := 3) (oi := _) (v := ?_) rfl (by kernel_rfl) (by kernel_rfl) (by decide) (fun _ _ _ h => h) (by kernel_rfl) (Or.inl ⟨by rfl, ?_⟩) hS ?_
    rotate_left
    · intro wz hwz
      try dsimp only at hwz
      go_simp
      try with_reducible rfl
    simp only [zA, zB, zC, Act.put, zD, zE, zF]
    refine HT.take (i := 5) (oi := _) (v := ?_) rfl (by kernel_rfl) (by kernel_rfl) (by decide) (fun _ _ _ h => h) (Or.inl ⟨by rfl, ?_⟩) hS ?_
    rotate_left
    · intro wz
      go_simp
      try with_reducible rfl
    simp only [zA, zB, zC, Act.put, zD, zE, zF]
    refine HT.load (i := 6) (oi := _) (v := ?_) rfl (by kernel_rfl) (by kernel_rfl) (by decide) (fun _ _ _ h => h) (by kernel_rfl) (Or.inl ⟨by rfl, ?_⟩) hS ?_
    rotate_left
    · intro wz hwz
      try dsimp only at hwz
      go_simp
      try with_reducible rfl
    simp only [zA, zB, zC, Act.put, zD, zE, zF]
    refine HT.one (i := 4) (o := _) rfl (by kernel_rfl) (by decide) (by rfl) ?_
    intro K hK
    go_simp
    refine (IADD_any neg neg' A A' n c n' c' z z' (by omega) (by omega) _ W.heap.size (by exact Nat.le_refl _) (by exact Lib.hid HRW.out.1) (by exact Lib.hid HRW'.out.1)).mono ?_
    rintro e w1 ⟨ng1, A1, n1, c1, rfl, h1, k1, hb1⟩
    replace hb1 : Below W.heap.size W w1 := below_undrew hb1
    have H1 := Lib.hid h1
    have HB1 := Lib.hid hb1
    clear h1 hb1
    refine hK.out _ _ (six_keep hS0 HB1.out (by omega) (by omega)) ?_
    clear hK K hS
    have hS := six_keep hS0 HB1.out (by omega) (by omega)
    try simp only [zA, zB, zC, Act.put, zD, zE, zF]
    refine HT.one (i := 7) (o := _) rfl (by kernel_rfl) (by decide) (by rfl) ?_
    intro K hK
    go_simp
    refine (QOVER_any ng1 A1 D n1 c1 m d x (z + z') (by omega) (by omega) hx9 _ w1.heap.size (Nat.le_refl _) H1 (by exact Lib.hid (HRW.out.2.to HB1.out (Nat.le_refl _) HB1.out.size))).mono ?_
    rintro e w2 ⟨ng3, A3, n3, c3, A4, n4, c4, rfl, h2, k3, k4, hb2⟩
    have H2 := Lib.hid h2
    have HB2 := Lib.hid (HB1.out.trans (hb2.mono HB1.out.size))
    have HL2 := Lib.hid hb2
    clear h2 hb2
    refine hK.out _ _ (six_keep hS0 HB2.out (by omega) (by omega)) ?_
    clear hK K hS
    have hS := six_keep hS0 HB2.out (by omega) (by omega)
    try simp only [zA, zB, zC, Act.put, zD, zE, zF]
    have hhx := (HB2.out.block (gx + 1 + 1) hgw).trans HHR.out
    obtain ⟨hr0, hr1, hr2, hf0, hf1, hf2⟩ := three_cells hhx
    have HHX := Lib.hid hhx
    clear hhx
    refine HT.done (by kernel_rfl) ?_
    clear hS
    simp only [List.drop_succ_cons, List.drop_zero]
    go_wp2_with fail
    rw [raw_add_same z z' hx9 HDEN.out]
    exact end_rat rfl rfl rfl hr0 hr1 hr2 (outQ_set (q := mkRat (z + z') x) H2.out.1.1 (by have := HGX.out; omega) ⟨_, _, HHX.out⟩ H2.out.1.2 H2.out.2 (HBX.out.trans (HB2.out.mono HBX0.out)) (by omega) (by omega))
  · have hkb : (k == 0) = false := by
      rw [← HK.out]
      unfold cmpN
      by_cases h1 : x < x'
      · rw [if_pos h1]; rfl
      · rw [if_neg h1, if_neg hden]; rfl
    clear hden
    go_upto_region 3 with (fail)
    obtain ⟨W, rfl⟩ : ∃ Wx : World, Wx = W := ⟨_, rfl⟩
    refine wp_region_text 19 (fun x => x.cell? ⟨gx, 0, none⟩ = some (.bool neg) ∧ x.cell? ⟨gx, 1, none⟩ = some (.slice A n c) ∧ x.cell? ⟨gx, 2, none⟩ = some (.slice D m d) ∧ x.cell? ⟨gx + 1, 0, none⟩ = some (.bool neg') ∧ x.cell? ⟨gx + 1, 1, none⟩ = some (.slice A' n' c') ∧ x.cell? ⟨gx + 1, 2, none⟩ = some (.slice D' m' d')) (by kernel_rfl) (by kernel_rfl) ?_
    have hS : W.drew.cell? ⟨gx, 0, none⟩ = some (.bool neg) ∧ W.drew.cell? ⟨gx, 1, none⟩ = some (.slice A n c) ∧ W.drew.cell? ⟨gx, 2, none⟩ = some (.slice D m d) ∧ W.drew.cell? ⟨gx + 1, 0, none⟩ = some (.bool neg') ∧ W.drew.cell? ⟨gx + 1, 1, none⟩ = some (.slice A' n' c') ∧ W.drew.cell? ⟨gx + 1, 2, none⟩ = some (.slice D' m' d') := ⟨x0, x1, x2, y0, y1, y2⟩
    have hS0 := And.intro x0 (And.intro x1 (And.intro x2 (And.intro y0 (And.intro y1 y2))))
    refine HT.take (i := 0) (oi := _) (v := ?_) rfl (by kernel_rfl) (by kernel_rfl) (by decide) (fun _ _ _ h => h) (Or.inl ⟨by rfl, ?_⟩) hS ?_
    rotate_left
    · intro wz
      go_simp
      try with_reducible rfl
    simp only [zA, zB, zC, Act.put, zD, zE, zF]
    refine HT.load (i := 1) (oi := _) (v := ?_) rfl (by kernel_rfl) (by kernel_rfl) (by decide) (fun _ _ _ h => h) (by kernel_rfl) (Or.inl ⟨by rfl, ?_⟩) hS ?_
    rotate_left
    · intro wz hwz
      try dsimp only at hwz
      go_simp
      try with_reducible rfl
    simp only [zA, zB, zC, Act.put, zD, zE, zF]
    refine HT.take (i := 2) (oi := _) (v := ?_) rfl (by kernel_rfl) (by kernel_rfl) (by decide) (fun _ _ _ h => h) (Or.inl ⟨by rfl, ?_⟩) hS ?_
    rotate_left
    · intro wz
      go_simp
      try with_reducible rfl
    simp only [zA, zB, zC, Act.put, zD, zE, zF]
    refine HT.load (i := 3) (oi := _) (v := ?_) rfl (by kernel_rfl) (by kernel_rfl) (by decide) (fun _ _ _ h => h) (by kernel_rfl) (Or.inl ⟨by rfl, ?_⟩) hS ?_
    rotate_left
    · intro wz hwz
      try dsimp only at hwz
      go_simp
      try with_reducible rfl
    simp only [zA, zB, zC, Act.put, zD, zE, zF]
    refine HT.take (i := 4) (oi := _) (v := ?_) rfl (by kernel_rfl) (by kernel_rfl) (by decide) (fun _ _ _ h => h) (Or.inl ⟨by rfl, ?_⟩) hS ?_
    rotate_left
    · intro wz
      go_simp
      try with_reducible rfl
    simp only [zA, zB, zC, Act.put, zD, zE, zF]
    refine HT.take (i := 6) (oi := _) (v := ?_) rfl (by kernel_rfl) (by kernel_rfl) (by decide) (fun _ _ _ h => h) (Or.inl ⟨by rfl, ?_⟩) hS ?_
    rotate_left
    · intro wz
      go_simp
      try with_reducible rfl
    simp only [zA, zB, zC, Act.put, zD, zE, zF]
    refine HT.load (i := 7) (oi := _) (v := ?_) rfl (by kernel_rfl) (by kernel_rfl) (by decide) (fun _ _ _ h => h) (by kernel_rfl) (Or.inl ⟨by rfl, ?_⟩) hS ?_
    rotate_left
    · intro wz hwz
      try dsimp only at hwz
      go_simp
      try with_reducible rfl
    simp only [zA, zB, zC, Act.put, zD, zE, zF]
    refine HT.take (i := 8) (oi := _) (v := ?_) rfl (by kernel_rfl) (by kernel_rfl) (by decide) (fun _ _ _ h => h) (Or.inl ⟨by rfl, ?_⟩) hS ?_
    rotate_left
    · intro wz
      go_simp
      try with_reducible rfl
    simp only [zA, zB, zC, Act.put, zD, zE, zF]
    refine HT.load (i := 9) (oi := _) (v := ?_) rfl (by kernel_rfl) (by kernel_rfl) (by decide) (fun _ _ _ h => h) (by kernel_rfl) (Or.inl ⟨by rfl, ?_⟩) hS ?_
    rotate_left
    · intro wz hwz
      try dsimp only at hwz
      go_simp
      try with_reducible rfl
    simp only [zA, zB, zC, Act.put, zD, zE, zF]
    refine HT.take (i := 10) (oi := _) (v := ?_) rfl (by kernel_rfl) (by kernel_rfl) (by decide) (fun _ _ _ h => h) (Or.inl ⟨by rfl, ?_⟩) hS ?_
    rotate_left
    · intro wz
      go_simp
      try with_reducible rfl
    simp only [zA, zB, zC, Act.put, zD, zE, zF]
    refine HT.take (i := 13) (oi := _) (v := ?_) rfl (by kernel_rfl) (by kernel_rfl) (by decide) (fun _ _ _ h => h) (Or.inl ⟨by rfl, ?_⟩) hS ?_
    rotate_left
    · intro wz
      go_simp
      try with_reducible rfl
    simp only [zA, zB, zC, Act.put, zD, zE, zF]
    refine HT.load (i := 14) (oi := _) (v := ?_) rfl (by kernel_rfl) (by kernel_rfl) (by decide) (fun _ _ _ h => h) (by kernel_rfl) (Or.inl ⟨by rfl, ?_⟩) hS ?_
    rotate_left
    · intro wz hwz
      try dsimp only at hwz
      go_simp
      try with_reducible rfl
    simp only [zA, zB, zC, Act.put, zD, zE, zF]
    refine HT.take (i := 15) (oi := _) (v := ?_) rfl (by kernel_rfl) (by kernel_rfl) (by decide) (fun _ _ _ h => h) (Or.inl ⟨by rfl, ?_⟩) hS ?_
    rotate_left
    · intro wz
      go_simp
      try with_reducible rfl
    simp only [zA, zB, zC, Act.put, zD, zE, zF]
    refine HT.load (i := 16) (oi := _) (v := ?_) rfl (by kernel_rfl) (by kernel_rfl) (by decide) (fun _ _ _ h => h) (by kernel_rfl) (Or.inl ⟨by rfl, ?_⟩) hS ?_
    rotate_left
    · intro wz hwz
      try dsimp only at hwz
      go_simp
      try with_reducible rfl
    simp only [zA, zB, zC, Act.put, zD, zE, zF]
    refine HT.one (i := 5) (o := _) rfl (by kernel_rfl) (by decide) (by rfl) ?_
    intro K hK
    go_simp
    refine (IMUL_any neg false A D' n c m' d' z x' (by omega) (by omega) _ W.heap.size (by exact Nat.le_refl _) (by exact Lib.hid HRW.out.1) (by exact Lib.hid (den_int HRW'.out.2))).mono ?_
    rintro e w1 ⟨ng1, A1, n1, c1, rfl, h1, k1, hb1⟩
    replace hb1 : Below W.heap.size W w1 := below_undrew hb1
    have H1 := Lib.hid h1
    have HB1 := Lib.hid hb1
    clear h1 hb1
    refine hK.out _ _ (six_keep hS0 HB1.out (by omega) (by omega)) ?_
    clear hK K hS
    have hS := six_keep hS0 HB1.out (by omega) (by omega)
    try simp only [zA, zB, zC, Act.put, zD, zE, zF]
    refine HT.one (i := 11) (o := _) rfl (by kernel_rfl) (by decide) (by rfl) ?_
    intro K hK
    go_simp
    refine (IMUL_any neg' false A' D n' c' m d z' x (by omega) (by omega) _ W.heap.size (by exact HB1.out.size) (by exact Lib.hid (HRW'.out.1.below HB1.out (Nat.le_refl _))) (by exact Lib.hid (den_int (HRW.out.2.below HB1.out (Nat.le_refl _))))).mono ?_
    rintro e w2 ⟨ng2, A2, n2, c2, rfl, h2, k2, hb2⟩
    have H2 := Lib.hid h2
    have HB2 := Lib.hid (HB1.out.trans (hb2.mono HB1.out.size))
    have HL2 := Lib.hid hb2
    clear h2 hb2
    refine hK.out _ _ (six_keep hS0 HB2.out (by omega) (by omega)) ?_
    clear hK K hS
    have hS := six_keep hS0 HB2.out (by omega) (by omega)
    try simp only [zA, zB, zC, Act.put, zD, zE, zF]
    have H12 := Lib.hid (H1.out.to HL2.out (Nat.le_refl _) HL2.out.size)
    refine HT.one (i := 12) (o := _) rfl (by kernel_rfl) (by decide) (by rfl) ?_
    intro K hK
    go_simp
    refine (IADD_any ng1 ng2 A1 A2 n1 c1 n2 c2 (z * x') (z' * x) (by omega) (by omega) _ w2.heap.size (Nat.le_refl _) H12 H2).mono ?_
    rintro e w3 ⟨ng3, A3, n3, c3, rfl, h3, k3, hb3⟩
    have H3 := Lib.hid h3
    have HB3 := Lib.hid (HB2.out.trans (hb3.mono HB2.out.size))
    have HL3 := Lib.hid hb3
    clear h3 hb3
    refine hK.out _ _ (six_keep hS0 HB3.out (by omega) (by omega)) ?_
    clear hK K hS
    have hS := six_keep hS0 HB3.out (by omega) (by omega)
    try simp only [zA, zB, zC, Act.put, zD, zE, zF]
    refine HT.one (i := 17) (o := _) rfl (by kernel_rfl) (by decide) (by rfl) ?_
    intro K hK
    go_simp
    refine (NMUL_any D D' m d _ m' d' _ (by omega) (by omega) _ W.heap.size (by exact HB3.out.size) (by exact Lib.hid (HRW.out.2.below HB3.out (Nat.le_refl _))) (by exact Lib.hid (HRW'.out.2.below HB3.out (Nat.le_refl _)))).mono ?_
    rintro e w4 ⟨A4, n4, c4, rfl, h4, k4, hb4⟩
    have H4 := Lib.hid h4
    have HB4 := Lib.hid (HB3.out.trans (hb4.mono HB3.out.size))
    have HL4 := Lib.hid hb4
    clear h4 hb4
    refine hK.out _ _ (six_keep hS0 HB4.out (by omega) (by omega)) ?_
    clear hK K hS
    have hS := six_keep hS0 HB4.out (by omega) (by omega)
    try simp only [zA, zB, zC, Act.put, zD, zE, zF]
    refine HT.one (i := 18) (o := _) rfl (by kernel_rfl) (by decide) (by rfl) ?_
    intro K hK
    go_simp
    refine (QOVER_any ng3 A3 A4 n3 c3 n4 c4 (x * x') (z * x' + z' * x) (by omega) (by omega) (Nat.mul_pos hx9 hx9') _ w4.heap.size (Nat.le_refl _) (Lib.hid (H3.out.to HL4.out (Nat.le_refl _) HL4.out.size)) H4).mono ?_
    rintro e w5 ⟨ng6, A6, n6, c6, A7, n7, c7, rfl, h5, k6, k7, hb5⟩
    have H5 := Lib.hid h5
    have HB5 := Lib.hid (HB4.out.trans (hb5.mono HB4.out.size))
    have HL5 := Lib.hid hb5
    clear h5 hb5
    refine hK.out _ _ (six_keep hS0 HB5.out (by omega) (by omega)) ?_
    clear hK K hS
    have hS := six_keep hS0 HB5.out (by omega) (by omega)
    try simp only [zA, zB, zC, Act.put, zD, zE, zF]
    have hhx := (HB5.out.block (gx + 1 + 1) hgw).trans HHR.out
    obtain ⟨hr0, hr1, hr2, hf0, hf1, hf2⟩ := three_cells hhx
    have HHX := Lib.hid hhx
    clear hhx
    refine HT.done (by kernel_rfl) ?_
    clear hS
    simp only [List.drop_succ_cons, List.drop_zero]
    go_wp2_with fail
    rw [raw_add z z' hx9 hx9']
    exact end_rat rfl rfl rfl hr0 hr1 hr2 (outQ_set (q := mkRat (z * x' + z' * x) (x * x')) H5.out.1.1 (by have := HGX.out; omega) ⟨_, _, HHX.out⟩ H5.out.1.2 H5.out.2 (HBX.out.trans (HB5.out.mono HBX0.out)) (by omega) (by omega))
end Go.Proofs.YtkmcohnhanphdaaGreatDoor
/- The mixer of Render: for each position a sum; add. -/
namespace Go.Proofs.YtkmcohnhanphdaaGreatDoor
open Go.RowKit Go.Dw
attribute [local go_sem ↓] Go.wp_at_zero Go.wp_at_succ
def OffG (B g : Nat) (w w' : World) : Prop := ∀ k, k < B → k ≠ g → w'.heap[k]? = w.heap[k]?
theorem NumAt.off {T : TypeId} {w w' : World} {B g n c x b : Nat} {A : Option Addr} (h : NumAt .u32 164 b w B A n c x) (hg : TyAt T w g) (hT : 164 ≠ T) (ho : OffG B g w w') : NumAt .u32 164 b w' B A n c x := by
  obtain ⟨h1, h2, xs, h3, h4, h5⟩ := h
  refine ⟨h1, h2, xs, h3, h4, h5.1, fun i hi => ?_⟩
  obtain ⟨q, o, e, hlt, ⟨cs, fr, ht⟩, hc⟩ := h5.2 i hi
  have hq : q ≠ g := fun e9 => by
    obtain ⟨cs', fr', h9⟩ := hg
    rw [e9, h9] at ht
    injection ht with ht
    injection ht with _ h10
    exact hT h10.symm
  have hb := ho q hlt hq
  exact ⟨q, o, e, hlt, ⟨cs, fr, hb.trans ht⟩, (World.cell?_of_block (w := w) (a := ⟨q, o + i, none⟩) hb).trans hc⟩
theorem RawAt.off {T : TypeId} {w w' : World} {B g n c m d x : Nat} {neg : Bool} {A D : Option Addr} {z : Int} (h : RawAt w B neg A n c D m d z x) (hg : TyAt T w g) (hT : 164 ≠ T) (ho : OffG B g w w') : RawAt w' B neg A n c D m d z x :=
  ⟨⟨h.1.1, NumAt.off h.1.2 hg hT ho⟩, NumAt.off h.2 hg hT ho⟩
theorem RawAt.mono {w : World} {B B' n c m d x : Nat} {neg : Bool} {A D : Option Addr} {z : Int} (h : RawAt w B neg A n c D m d z x) (hB : B ≤ B') : RawAt w B' neg A n c D m d z x := ⟨h.1.mono hB, h.2.mono hB⟩
def SumAt (w : World) (B : Nat) (r : List Value) (q : Rat) (K : Nat) : Prop :=
  ∃ neg A n c D m d, r = [.bool neg, .slice A n c, .slice D m d] ∧ n ≤ K ∧ m ≤ K ∧ ((m = 0 ∧ q = 0) ∨ ∃ (z : Int) (x : Nat), 0 < x ∧ RawAt w B neg A n c D m d z x ∧ mkRat z x = q)
theorem SumAt.off {T : TypeId} {w w' : World} {B B' g K : Nat} {r : List Value} {q : Rat} (h : SumAt w B r q K) (hg : TyAt T w g) (hT : 164 ≠ T) (ho : OffG B g w w') (hB : B ≤ B') : SumAt w' B' r q K := by
  obtain ⟨neg, A, n, c, D, m, d, e, h1, h2, h3⟩ := h
  refine ⟨neg, A, n, c, D, m, d, e, h1, h2, ?_⟩
  rcases h3 with h3 | ⟨z, x, h4, h5, h6⟩
  · exact .inl h3
  · exact .inr ⟨z, x, h4, (h5.off hg hT ho).mono hB, h6⟩
theorem SumAt.le {w : World} {B K K' : Nat} {r : List Value} {q : Rat} (h : SumAt w B r q K) (hK : K ≤ K') : SumAt w B r q K' := by
  obtain ⟨neg, A, n, c, D, m, d, e, h1, h2, h3⟩ := h
  exact ⟨neg, A, n, c, D, m, d, e, by omega, by omega, h3⟩
structure MixJ (gm g n cap base : Nat) (K : Nat → Nat) (qs : Nat → Rat) (w : World) : Prop where
  box : w.heap[gm]? = some (.cells #[.slice (some ⟨g, 0, none⟩) n cap] 77 (0, 0))
  ty : TyAt 88 w g
  own : ∃ ls, OwnK 3 88 w base (.slice (some ⟨g, 0, none⟩) n cap) ls ∧ ls.length = n ∧ ∀ i, i < n → SumAt w w.heap.size (recOf ls i) (qs i) (K i)
theorem MixJ.ne {gm g n cap base : Nat} {K : Nat → Nat} {qs : Nat → Rat} {w : World} (h : MixJ gm g n cap base K qs w) : gm ≠ g := fun e => by
  obtain ⟨cs, fr, h1⟩ := h.ty
  have h2 := h.box
  rw [e, h1] at h2
  injection h2 with h2
  injection h2 with _ h3
  exact absurd h3 (by decide)
theorem SumAt.below {w w' : World} {B B' N K : Nat} {r : List Value} {q : Rat} (h : SumAt w B r q K) (hb : Below N w w') (hN : B ≤ N) (hB : B ≤ B') : SumAt w' B' r q K := by
  obtain ⟨neg, A, n, c, D, m, d, e, h1, h2, h3⟩ := h
  refine ⟨neg, A, n, c, D, m, d, e, h1, h2, ?_⟩
  rcases h3 with h3 | ⟨z, x, h4, h5, h6⟩
  · exact .inl h3
  · exact .inr ⟨z, x, h4, (h5.below hb hN).mono hB, h6⟩
theorem MixJ.lt {gm g n cap base : Nat} {K : Nat → Nat} {qs : Nat → Rat} {w : World} (h : MixJ gm g n cap base K qs w) : g < w.heap.size := by
  obtain ⟨cs, fr, h9⟩ := h.ty; exact (Array.getElem?_eq_some_iff.1 h9).1
theorem MixJ.below {gm g n cap base : Nat} {K : Nat → Nat} {qs : Nat → Rat} {w w' : World} (h : MixJ gm g n cap base K qs w) (hb : Below w.heap.size w w') : MixJ gm g n cap base K qs w' := by
  obtain ⟨ls, h1, h2, h3⟩ := h.own
  exact ⟨(hb.block gm (blk_lt h.box)).trans h.box, h.ty.below hb h.lt, ls, h1.below hb, h2, fun i hi => (h3 i hi).below hb (Nat.le_refl _) hb.size⟩
theorem rec_set {ls : List (List Value)} {i : Nat} {r : List Value} (h : i < ls.length) : recOf (ls.set i r) i = r := by simp [recOf, List.getD, h]
theorem rec_set_ne {ls : List (List Value)} {i j : Nat} {r : List Value} (h : j ≠ i) : recOf (ls.set i r) j = recOf ls j := by simp [recOf, List.getD, List.getElem?_set, Ne.symm h]
theorem OwnK.set3 {E : TypeId} {w : World} {base g n cap i : Nat} {ls : List (List Value)} (h : OwnK 3 E w base (.slice (some ⟨g, 0, none⟩) n cap) ls) (hi : i < ls.length) (v0 v1 v2 : Value) :
    OwnK 3 E (((w.setCell ⟨g, i * 3, none⟩ v0).setCell ⟨g, i * 3 + 1, none⟩ v1).setCell ⟨g, i * 3 + 2, none⟩ v2) base (.slice (some ⟨g, 0, none⟩) n cap) (ls.set i [v0, v1, v2]) := by
  have hl : (recOf ls i).length = 3 := h.1 _ (rec_mem hi)
  have h1 := h.set (i := i) (j := 0) hi (by omega) v0
  have h2 := h1.set (i := i) (j := 1) (by rw [List.length_set]; exact hi) (by omega) v1
  rw [rec_set hi, List.set_set] at h2
  have h3 := h2.set (i := i) (j := 2) (by rw [List.length_set]; exact hi) (by omega) v2
  rw [rec_set hi, List.set_set] at h3
  obtain ⟨r, hr⟩ : ∃ r, recOf ls i = r := ⟨_, rfl⟩
  rw [hr] at hl h3
  match r, hl with
  | [a, b, c], _ => exact h3
theorem OwnK.set2 {E : TypeId} {w : World} {base g n cap i : Nat} {ls : List (List Value)} {u0 u1 u2 : Value} (h : OwnK 3 E w base (.slice (some ⟨g, 0, none⟩) n cap) ls) (hi : i < ls.length) (hr : recOf ls i = [u0, u1, u2]) (v0 v1 : Value) :
    OwnK 3 E ((w.setCell ⟨g, i * 3, none⟩ v0).setCell ⟨g, i * 3 + 1, none⟩ v1) base (.slice (some ⟨g, 0, none⟩) n cap) (ls.set i [v0, v1, u2]) := by
  have h1 := h.set (i := i) (j := 0) hi (by omega) v0
  have h2 := h1.set (i := i) (j := 1) (by rw [List.length_set]; exact hi) (by omega) v1
  rw [rec_set hi, List.set_set, hr] at h2
  exact h2
theorem OwnK.cells {k : Nat} {E : TypeId} {w : World} {base g n cap i : Nat} {ls : List (List Value)} (h : OwnK k E w base (.slice (some ⟨g, 0, none⟩) n cap) ls) (hi : i < ls.length) (hk : 0 < k) (j : Nat) (u : Value) (hu : (recOf ls i)[j]? = some u) :
    w.cell? ⟨g, i * k + j, none⟩ = some u ∧ w.frozen? ⟨g, i * k + j, none⟩ = false := by
  obtain ⟨g', cap', e', _, _, _, _, hc⟩ := h.slot (by omega) hk
  injection e' with e1 _ _
  injection e1 with e1
  injection e1 with e1 _ _
  subst e1
  exact hc i hi j u hu
def updP {α : Type} (qs : Nat → α) (p : Nat) (q : α) : Nat → α := fun i => if i = p then q else qs i
theorem MixJ.put {gm g n cap base K' p : Nat} {K : Nat → Nat} {qs : Nat → Rat} {w0 w1 w2 : World} {q' : Rat} {ls : List (List Value)} {r : List Value} (h : MixJ gm g n cap base K qs w0) (hb : Below w0.heap.size w0 w1) (hp : p < n)
    (ho : OwnK 3 88 w2 base (.slice (some ⟨g, 0, none⟩) n cap) (ls.set p r)) (hls : ls.length = n ∧ ∀ i, i < n → SumAt w0 w0.heap.size (recOf ls i) (qs i) (K i)) (h2 : ∀ k, k ≠ g → w2.heap[k]? = w1.heap[k]?) (hm : w2.heap.size = w1.heap.size ∧ w2.os = w1.os ∧ w2.tape = w1.tape ∧ w2.output = w1.output) (hty : TyAt 88 w2 g)
    (hr : SumAt w1 w1.heap.size r q' K') : MixJ gm g n cap base (updP K p K') (updP qs p q') w2 ∧ Alt g (g + 1) w0 w2 := by
  have hne := h.ne
  have hty1 := h.ty.below hb h.lt
  refine ⟨⟨(h2 gm hne).trans ((hb.block gm (blk_lt h.box)).trans h.box), hty, _, ho, by rw [List.length_set]; exact hls.1, fun i hi => ?_⟩, ?_⟩
  · unfold updP
    by_cases hip : i = p
    · subst hip
      rw [if_pos rfl, if_pos rfl, rec_set (by rw [hls.1]; exact hi)]
      exact hr.off hty1 (by decide) (fun k _ hk => h2 k hk) (by omega)
    · rw [if_neg hip, if_neg hip, rec_set_ne hip]
      exact ((hls.2 i hi).below hb (Nat.le_refl _) hb.size).off hty1 (by decide) (fun k _ hk => h2 k hk) (by omega)
  · exact ⟨hm.2.1.trans hb.os, hm.2.2.1.trans hb.tape, hm.2.2.2.trans hb.output, by rw [hm.1]; exact hb.size, fun k hk hc => (h2 k (by omega)).trans (hb.block k hk)⟩
theorem MixJ.put3 {gm g n cap base K' p : Nat} {K : Nat → Nat} {qs : Nat → Rat} {w0 w1 : World} {q' : Rat} {ls : List (List Value)} {v0 v1 v2 : Value} (h : MixJ gm g n cap base K qs w0) (hb : Below w0.heap.size w0 w1) (hp : p < n)
    (ho : OwnK 3 88 w0 base (.slice (some ⟨g, 0, none⟩) n cap) ls) (hls : ls.length = n ∧ ∀ i, i < n → SumAt w0 w0.heap.size (recOf ls i) (qs i) (K i)) (hr : SumAt w1 w1.heap.size [v0, v1, v2] q' K') :
    MixJ gm g n cap base (updP K p K') (updP qs p q') (((w1.setCell ⟨g, p * 3, none⟩ v0).setCell ⟨g, p * 3 + 1, none⟩ v1).setCell ⟨g, p * 3 + 2, none⟩ v2) ∧ Alt g (g + 1) w0 (((w1.setCell ⟨g, p * 3, none⟩ v0).setCell ⟨g, p * 3 + 1, none⟩ v1).setCell ⟨g, p * 3 + 2, none⟩ v2) :=
  h.put hb hp ((ho.below hb).set3 (by rw [hls.1]; exact hp) v0 v1 v2) hls (fun k hk => (Below.heap_setCell _ _ _ _ (by simpa using hk)).trans ((Below.heap_setCell _ _ _ _ (by simpa using hk)).trans (Below.heap_setCell _ _ _ _ (by simpa using hk)))) ⟨by simp [World.setCell], rfl, rfl, rfl⟩ ((((h.ty.below hb h.lt).set _ _).set _ _).set _ _) hr
theorem MixJ.put2 {gm g n cap base K' p : Nat} {K : Nat → Nat} {qs : Nat → Rat} {w0 w1 : World} {q' : Rat} {ls : List (List Value)} {u0 u1 u2 v0 v1 : Value} (h : MixJ gm g n cap base K qs w0) (hb : Below w0.heap.size w0 w1) (hp : p < n)
    (ho : OwnK 3 88 w0 base (.slice (some ⟨g, 0, none⟩) n cap) ls) (hls : ls.length = n ∧ ∀ i, i < n → SumAt w0 w0.heap.size (recOf ls i) (qs i) (K i)) (hu : recOf ls p = [u0, u1, u2]) (hr : SumAt w1 w1.heap.size [v0, v1, u2] q' K') :
    MixJ gm g n cap base (updP K p K') (updP qs p q') ((w1.setCell ⟨g, p * 3, none⟩ v0).setCell ⟨g, p * 3 + 1, none⟩ v1) ∧ Alt g (g + 1) w0 ((w1.setCell ⟨g, p * 3, none⟩ v0).setCell ⟨g, p * 3 + 1, none⟩ v1) :=
  h.put hb hp ((ho.below hb).set2 (by rw [hls.1]; exact hp) hu v0 v1) hls (fun k hk => (Below.heap_setCell _ _ _ _ (by simpa using hk)).trans (Below.heap_setCell _ _ _ _ (by simpa using hk))) ⟨by simp [World.setCell], rfl, rfl, rfl⟩ (((h.ty.below hb h.lt).set _ _).set _ _) hr
theorem keep6 {W w1 : World} {a b c d e f : Addr} {v0 v1 v2 v3 v4 v5 : Value} (h : W.cell? a = some v0 ∧ W.cell? b = some v1 ∧ W.cell? c = some v2 ∧ W.cell? d = some v3 ∧ W.cell? e = some v4 ∧ W.cell? f = some v5)
    (hb : Below W.heap.size W w1) (ha : a.block < W.heap.size) (hbb : b.block < W.heap.size) (hc : c.block < W.heap.size) (hd : d.block < W.heap.size) (he : e.block < W.heap.size) (hf : f.block < W.heap.size) :
    w1.cell? a = some v0 ∧ w1.cell? b = some v1 ∧ w1.cell? c = some v2 ∧ w1.cell? d = some v3 ∧ w1.cell? e = some v4 ∧ w1.cell? f = some v5 :=
  ⟨(hb.cell ha).trans h.1, (hb.cell hbb).trans h.2.1, (hb.cell hc).trans h.2.2.1, (hb.cell hd).trans h.2.2.2.1, (hb.cell he).trans h.2.2.2.2.1, (hb.cell hf).trans h.2.2.2.2.2⟩
set_option maxRecDepth 100000 in
set_option maxHeartbeats 4000000 in
theorem MIXADD_any (gm g n cap base L : Nat) (K : Nat → Nat) (qs : Nat → Rat) (p : Nat) (hp : p < n) (neg : Bool) (A D : Option Addr) (n' c' m d : Nat) (z : Int) (x : Nat) (hx : 0 < x) (hn' : n' ≤ L) (hm : m ≤ L) (hL : L ≤ 1000000) (hK : K p ≤ 8000000) (hn : n ≤ 1000000) (w : World)
    (hJ : Hid (MixJ gm g n cap base K qs w)) (hv : Hid (RawAt w w.heap.size neg A n' c' D m d z x)) :
    Calls Tryz.prog 30 #[.pointer (some ⟨gm, 0, none⟩), .int .i64 (p : Int), .agg #[.bool neg, .slice A n' c'], .slice D m d] w fun e w' => e = .returned (.tuple #[]) ∧ MixJ gm g n cap base (updP K p (K p + L + 1)) (updP qs p (qs p + mkRat z x)) w' ∧ Alt g (g + 1) w w' := by
  obtain ⟨ls, ho, hlen, hsum⟩ := hJ.out.own
  have HLN := Lib.hid hlen
  have hpl : p < ls.length := by omega
  obtain ⟨neg0, A0, n0, c0, D0, m0, d0, hrec, hn0, hm0, hval⟩ := hsum p hp
  obtain ⟨k0, f0⟩ := ho.cells hpl (by omega) 0 _ (by rw [hrec]; rfl)
  obtain ⟨k1, f1⟩ := ho.cells hpl (by omega) 1 _ (by rw [hrec]; rfl)
  obtain ⟨k2, f2⟩ := ho.cells hpl (by omega) 2 _ (by rw [hrec]; rfl)
  have HREC := Lib.hid hrec
  have HSUM := Lib.hid hsum
  have HO := Lib.hid ho
  have HVAL := Lib.hid hval
  clear hrec hsum ho hval hlen
  rw [Nat.add_zero] at k0 f0
  have hgm : w.cell? ⟨gm, 0, none⟩ = some (.slice (some ⟨g, 0, none⟩) n cap) := by rw [own_cell1 hJ.out.box 0]; rfl
  have hgl := hJ.out.lt
  have hgml := blk_lt hJ.out.box
  have hp0 : (0 : Int) ≤ (p : Int) := by omega
  have hpn : (p : Int) < (n : Int) := by omega
  obtain ⟨W0, g6, hW0, hg6, HG6, HB0, HS0⟩ := cell_new w 82 #[.bool neg, .slice A n' c']
  have k0 := (HB0.out.cell (p := ⟨g, p * 3, none⟩) hgl).trans k0
  have k1 := (HB0.out.cell (p := ⟨g, p * 3 + 1, none⟩) hgl).trans k1
  have k2 := (HB0.out.cell (p := ⟨g, p * 3 + 2, none⟩) hgl).trans k2
  have hgm := (HB0.out.cell (p := ⟨gm, 0, none⟩) hgml).trans hgm
  have f0 := (HB0.out.frozen (p := ⟨g, p * 3, none⟩) hgl).trans f0
  have f1 := (HB0.out.frozen (p := ⟨g, p * 3 + 1, none⟩) hgl).trans f1
  have f2 := (HB0.out.frozen (p := ⟨g, p * 3 + 2, none⟩) hgl).trans f2
  go_enter Tryz.func30, Tryz.ntmps30
  go_upto_region 1 with (fail)
  rw [← hW0, ← hg6]
  clear hW0 hg6
  go_upto_region 3 with (fail)
  obtain ⟨X, g8, hX, hg8, HX, HBX, HSX⟩ := cell_new W0 88 #[.bool neg0, .slice A0 n0 c0, .slice D0 m0 d0]
  rw [← hX, ← hg8]
  have HG8 := Lib.hid hg8
  clear hX hg8
  have hgl0 := Nat.lt_of_lt_of_le hgl HB0.out.size
  have hgml0 := Nat.lt_of_lt_of_le hgml HB0.out.size
  have k0 := (HBX.out.cell (p := ⟨g, p * 3, none⟩) hgl0).trans k0
  have k1 := (HBX.out.cell (p := ⟨g, p * 3 + 1, none⟩) hgl0).trans k1
  have k2 := (HBX.out.cell (p := ⟨g, p * 3 + 2, none⟩) hgl0).trans k2
  have f0 := (HBX.out.frozen (p := ⟨g, p * 3, none⟩) hgl0).trans f0
  have f1 := (HBX.out.frozen (p := ⟨g, p * 3 + 1, none⟩) hgl0).trans f1
  have f2 := (HBX.out.frozen (p := ⟨g, p * 3 + 2, none⟩) hgl0).trans f2
  have hgm := (HBX.out.cell (p := ⟨gm, 0, none⟩) hgml0).trans hgm
  obtain ⟨x0, x1, x2, _, _, _⟩ := three_cells HX.out
  obtain ⟨y0, y1, _, _⟩ := two_cells ((HBX.out.block g6 (blk_lt HG6.out)).trans HG6.out)
  have hg8X := blk_lt HX.out
  have hg6X := Nat.lt_of_lt_of_le (blk_lt HG6.out) HBX.out.size
  have hglX := Nat.lt_of_lt_of_le hgl0 HBX.out.size
  have hgmX := Nat.lt_of_lt_of_le hgml0 HBX.out.size
  have HBX0 := Lib.hid (HB0.out.trans (HBX.out.mono HB0.out.size))
  have HVX := Lib.hid (hv.out.to HBX0.out (Nat.le_refl _) HBX0.out.size)
  have hne86 : ¬ g8 = g6 := by have := HG8.out; have := blk_lt HG6.out; omega
  by_cases hm00 : m0 = 0
  · subst hm00
    go_wp2_with fail
    refine wp_region_text 8 (fun x9 => x9.cell? ⟨gm, 0, none⟩ = some (.slice (some ⟨g, 0, none⟩) n cap) ∧ x9.cell? ⟨g8, 0, none⟩ = some (.bool neg0) ∧ x9.cell? ⟨g8, 1, none⟩ = some (.slice A0 n0 c0) ∧ x9.cell? ⟨g8, 2, none⟩ = some (.slice D0 0 d0) ∧ x9.cell? ⟨g6, 0, none⟩ = some (.bool neg) ∧ x9.cell? ⟨g6, 1, none⟩ = some (.slice A n' c')) (by kernel_rfl) (by kernel_rfl) ?_
    have hS : X.drew.cell? ⟨gm, 0, none⟩ = some (.slice (some ⟨g, 0, none⟩) n cap) ∧ X.drew.cell? ⟨g8, 0, none⟩ = some (.bool neg0) ∧ X.drew.cell? ⟨g8, 1, none⟩ = some (.slice A0 n0 c0) ∧ X.drew.cell? ⟨g8, 2, none⟩ = some (.slice D0 0 d0) ∧ X.drew.cell? ⟨g6, 0, none⟩ = some (.bool neg) ∧ X.drew.cell? ⟨g6, 1, none⟩ = some (.slice A n' c') := ⟨hgm, x0, x1, x2, y0, y1⟩
    have hS0 := And.intro hgm (And.intro x0 (And.intro x1 (And.intro x2 (And.intro y0 y1))))
    refine HT.take (i := 0) (oi := _) (v := ?_) rfl (by kernel_rfl) (by kernel_rfl) (by decide) (fun _ _ _ h => h) (Or.inl ⟨by rfl, ?_⟩) hS ?_
    rotate_left
    · intro wz
      go_simp
      try with_reducible rfl
    simp only [zA, zB, zC, Act.put, zD, zE, zF]
    refine HT.take (i := 1) (oi := _) (v := ?_) rfl (by kernel_rfl) (by kernel_rfl) (by decide) (fun _ _ _ h => h) (Or.inl ⟨by rfl, ?_⟩) hS ?_
    rotate_left
    · intro wz
      go_simp
      try with_reducible rfl
    simp only [zA, zB, zC, Act.put, zD, zE, zF]
    refine HT.take (i := 2) (oi := _) (v := ?_) rfl (by kernel_rfl) (by kernel_rfl) (by decide) (fun _ _ _ h => h) (Or.inl ⟨by rfl, ?_⟩) hS ?_
    rotate_left
    · intro wz
      go_simp
      try with_reducible rfl
    simp only [zA, zB, zC, Act.put, zD, zE, zF]
    refine HT.load (i := 3) (oi := _) (v := ?_) rfl (by kernel_rfl) (by kernel_rfl) (by decide) (fun _ _ _ h => h) (by kernel_rfl) (Or.inl ⟨by rfl, ?_⟩) hS ?_
    rotate_left
    · intro wz hwz
      try dsimp only at hwz
      go_simp
      try with_reducible rfl
    simp only [zA, zB, zC, Act.put, zD, zE, zF]
    refine HT.take (i := 4) (oi := _) (v := ?_) rfl (by kernel_rfl) (by kernel_rfl) (by decide) (fun _ _ _ h => h) (Or.inl ⟨by rfl, ?_⟩) hS ?_
    rotate_left
    · intro wz
      go_simp
      try with_reducible rfl
    simp only [zA, zB, zC, Act.put, zD, zE, zF]
    refine HT.load (i := 5) (oi := _) (v := ?_) rfl (by kernel_rfl) (by kernel_rfl) (by decide) (fun _ _ _ h => h) (by kernel_rfl) (Or.inl ⟨by rfl, ?_⟩) hS ?_
    rotate_left
    · intro wz hwz
      try dsimp only at hwz
      go_simp
      try with_reducible rfl
    simp only [zA, zB, zC, Act.put, zD, zE, zF]
    refine HT.take (i := 6) (oi := _) (v := ?_) rfl (by kernel_rfl) (by kernel_rfl) (by decide) (fun _ _ _ h => h) (Or.inl ⟨by rfl, ?_⟩) hS ?_
    rotate_left
    · intro wz
      go_simp
      try with_reducible rfl
    simp only [zA, zB, zC, Act.put, zD, zE, zF]
    refine HT.take (i := 7) (oi := _) (v := ?_) rfl (by kernel_rfl) (by kernel_rfl) (by decide) (fun _ _ _ h => h) (Or.inl ⟨by rfl, ?_⟩) hS ?_
    rotate_left
    · intro wz
      go_simp
      try with_reducible rfl
    simp only [zA, zB, zC, Act.put, zD, zE, zF]
    refine HT.done (by kernel_rfl) ?_
    clear hS
    simp only [List.drop_succ_cons, List.drop_zero]
    go_wp2_with fail
    refine bodyPost_end (v := .tuple #[]) (by simp [results, Tryz.results30, go_sem]) rfl ?_
    have hq0 : qs p = 0 := by
      rcases HVAL.out with ⟨_, h9⟩ | ⟨z0, x9, hx9, hr0, hq0⟩
      · exact h9
      · exact absurd ((hr0.2.pos_iff (by omega)).2 hx9) (by omega)
    have hh := hJ.out.put3 (K' := K p + L + 1) (q' := qs p + mkRat z x) HBX0.out hp HO.out ⟨HLN.out, HSUM.out⟩ ⟨neg, A, n', c', D, m, d, rfl, by omega, by omega, .inr ⟨z, x, hx, HVX.out, by rw [hq0, Rat.zero_add]⟩⟩
    exact ⟨rfl, hh.1.below (Below.refl _ _).drew, hh.2.drew⟩
  · have hmb : ((m0 : Int) == 0) = false := by simp; omega
    rcases HVAL.out with ⟨h9, _⟩ | ⟨z0, x9, hx9, hr0, hq0⟩
    · exact absurd h9 hm00
    have HR0 := Lib.hid (hr0.to HBX0.out (Nat.le_refl _) HBX0.out.size)
    have HQ0 := Lib.hid hq0
    clear hr0 hq0 hm00
    go_wp2_with fail
    refine (NCMP_below D0 D m0 d0 x9 m d x X X.heap.size (Lib.hid HR0.out.2) (Lib.hid HVX.out.2)).mono ?_
    rintro e w0 ⟨rfl, hb0⟩
    obtain ⟨kc, hkc⟩ : ∃ kc, cmpN x9 x = kc := ⟨_, rfl⟩
    rw [hkc]
    have HKC := Lib.hid hkc
    clear hkc
    have k0 := (hb0.cell (p := ⟨g, p * 3, none⟩) hglX).trans k0
    have k1 := (hb0.cell (p := ⟨g, p * 3 + 1, none⟩) hglX).trans k1
    have k2 := (hb0.cell (p := ⟨g, p * 3 + 2, none⟩) hglX).trans k2
    have f0 := (hb0.frozen (p := ⟨g, p * 3, none⟩) hglX).trans f0
    have f1 := (hb0.frozen (p := ⟨g, p * 3 + 1, none⟩) hglX).trans f1
    have f2 := (hb0.frozen (p := ⟨g, p * 3 + 2, none⟩) hglX).trans f2
    obtain ⟨hgm, x0, x1, x2, y0, y1⟩ := keep6 ⟨hgm, x0, x1, x2, y0, y1⟩ hb0 hgmX hg8X hg8X hg8X hg6X hg6X
    have HR0 := Lib.hid (HR0.out.to hb0 (Nat.le_refl _) hb0.size)
    have HVX := Lib.hid (HVX.out.to hb0 (Nat.le_refl _) hb0.size)
    have HBX0 := Lib.hid (HBX0.out.trans (hb0.mono HBX0.out.size))
    have hg8X := Nat.lt_of_lt_of_le hg8X hb0.size
    have hg6X := Nat.lt_of_lt_of_le hg6X hb0.size
    have hglX := Nat.lt_of_lt_of_le hglX hb0.size
    have hgmX := Nat.lt_of_lt_of_le hgmX hb0.size
    clear hb0 HX HBX HSX HG8
    obtain ⟨X, rfl⟩ : ∃ Wx : World, Wx = w0 := ⟨_, rfl⟩
    by_cases hden : x9 = x
    · obtain rfl : kc = 0 := by rw [← HKC.out]; exact cmpN_eq hden
      have HDEN := Lib.hid hden
      clear hden
      go_wp2_with fail
      refine wp_region_text 9 (fun x9 => x9.cell? ⟨gm, 0, none⟩ = some (.slice (some ⟨g, 0, none⟩) n cap) ∧ x9.cell? ⟨g8, 0, none⟩ = some (.bool neg0) ∧ x9.cell? ⟨g8, 1, none⟩ = some (.slice A0 n0 c0) ∧ x9.cell? ⟨g8, 2, none⟩ = some (.slice D0 m0 d0) ∧ x9.cell? ⟨g6, 0, none⟩ = some (.bool neg) ∧ x9.cell? ⟨g6, 1, none⟩ = some (.slice A n' c')) (by kernel_rfl) (by kernel_rfl) ?_
      have hS : X.drew.cell? ⟨gm, 0, none⟩ = some (.slice (some ⟨g, 0, none⟩) n cap) ∧ X.drew.cell? ⟨g8, 0, none⟩ = some (.bool neg0) ∧ X.drew.cell? ⟨g8, 1, none⟩ = some (.slice A0 n0 c0) ∧ X.drew.cell? ⟨g8, 2, none⟩ = some (.slice D0 m0 d0) ∧ X.drew.cell? ⟨g6, 0, none⟩ = some (.bool neg) ∧ X.drew.cell? ⟨g6, 1, none⟩ = some (.slice A n' c') := ⟨hgm, x0, x1, x2, y0, y1⟩
      have hS0 := And.intro hgm (And.intro x0 (And.intro x1 (And.intro x2 (And.intro y0 y1))))
      refine HT.take (i := 0) (oi := _) (v := ?_) rfl (by kernel_rfl) (by kernel_rfl) (by decide) (fun _ _ _ h => h) (Or.inl ⟨by rfl, ?_⟩) hS ?_
      rotate_left
      · intro wz
        go_simp
        try with_reducible rfl
      simp only [zA, zB, zC, Act.put, zD, zE, zF]
      refine HT.take (i := 1) (oi := _) (v := ?_) rfl (by kernel_rfl) (by kernel_rfl) (by decide) (fun _ _ _ h => h) (Or.inl ⟨by rfl, ?_⟩) hS ?_
      rotate_left
      · intro wz
        go_simp
        try with_reducible rfl
      simp only [zA, zB, zC, Act.put, zD, zE, zF]
      refine HT.take (i := 2) (oi := _) (v := ?_) rfl (by kernel_rfl) (by kernel_rfl) (by decide) (fun _ _ _ h => h) (Or.inl ⟨by rfl, ?_⟩) hS ?_
      rotate_left
      · intro wz
        go_simp
        try with_reducible rfl
      simp only [zA, zB, zC, Act.put, zD, zE, zF]
      refine HT.load (i := 3) (oi := _) (v := ?_) rfl (by kernel_rfl) (by kernel_rfl) (by decide) (fun _ _ _ h => h) (by kernel_rfl) (Or.inl ⟨by rfl, ?_⟩) hS ?_
      rotate_left
      · intro wz hwz
        try dsimp only at hwz
        go_simp
        try with_reducible rfl
      simp only [zA, zB, zC, Act.put, zD, zE, zF]
      refine HT.take (i := 4) (oi := _) (v := ?_) rfl (by kernel_rfl) (by kernel_rfl) (by decide) (fun _ _ _ h => h) (Or.inl ⟨by rfl, ?_⟩) hS ?_
      rotate_left
      · intro wz
        go_simp
        try with_reducible rfl
      simp only [zA, zB, zC, Act.put, zD, zE, zF]
      refine HT.take (i := 5) (oi := _) (v := ?_) rfl (by kernel_rfl) (by kernel_rfl) (by decide) (fun _ _ _ h => h) (Or.inl ⟨by rfl, ?_⟩) hS ?_
      rotate_left
      · intro wz
        go_simp
        try with_reducible rfl
      simp only [zA, zB, zC, Act.put, zD, zE, zF]
      refine HT.load (i := 6) (oi := _) (v := ?_) rfl (by kernel_rfl) (by kernel_rfl) (by decide) (fun _ _ _ h => h) (by kernel_rfl) (Or.inl ⟨by rfl, ?_⟩) hS ?_
      rotate_left
      · intro wz hwz
        try dsimp only at hwz
        go_simp
        try with_reducible rfl
      simp only [zA, zB, zC, Act.put, zD, zE, zF]
      refine HT.load (i := 7) (oi := _) (v := ?_) rfl (by kernel_rfl) (by kernel_rfl) (by decide) (fun _ _ _ h => h) (by kernel_rfl) (Or.inl ⟨by rfl, ?_⟩) hS ?_
      rotate_left
      · intro wz hwz
        try dsimp only at hwz
        go_simp
        try with_reducible rfl
      simp only [zA, zB, zC, Act.put, zD, zE, zF]
      refine HT.one (i := 8) (o := _) rfl (by kernel_rfl) (by decide) (by rfl) ?_
      intro K hK
      go_simp
      refine (IADD_any neg0 neg A0 A n0 c0 n' c' z0 z (by omega) (by omega) _ X.heap.size (by exact Nat.le_refl _) (by exact Lib.hid HR0.out.1) (by exact Lib.hid HVX.out.1)).mono ?_
      rintro e w1 ⟨ng1, A1, n1, c1, rfl, h1, hk1, hb1⟩
      replace hb1 : Below X.heap.size X w1 := below_undrew hb1
      have H1 := Lib.hid h1
      have HB1 := Lib.hid hb1
      clear h1 hb1
      refine hK.out _ _ (keep6 hS0 HB1.out hgmX hg8X hg8X hg8X hg6X hg6X) ?_
      clear hK K hS
      have hS := keep6 hS0 HB1.out hgmX hg8X hg8X hg8X hg6X hg6X
      try simp only [zA, zB, zC, Act.put, zD, zE, zF]
      refine HT.done (by kernel_rfl) ?_
      clear hS
      simp only [List.drop_succ_cons, List.drop_zero]
      have k0 := (HB1.out.cell (p := ⟨g, p * 3, none⟩) hglX).trans k0
      have k1 := (HB1.out.cell (p := ⟨g, p * 3 + 1, none⟩) hglX).trans k1
      have k2 := (HB1.out.cell (p := ⟨g, p * 3 + 2, none⟩) hglX).trans k2
      have f0 := (HB1.out.frozen (p := ⟨g, p * 3, none⟩) hglX).trans f0
      have f1 := (HB1.out.frozen (p := ⟨g, p * 3 + 1, none⟩) hglX).trans f1
      have f2 := (HB1.out.frozen (p := ⟨g, p * 3 + 2, none⟩) hglX).trans f2
      clear hS0 hgm x0 x1 x2 y0 y1
      go_wp2_with fail
      refine bodyPost_end (v := .tuple #[]) (by simp [results, Tryz.results30, go_sem]) rfl ?_
      refine ⟨rfl, hJ.out.put2 (HBX0.out.trans (HB1.out.mono HBX0.out.size)) hp HO.out ⟨HLN.out, HSUM.out⟩ HREC.out ⟨_, _, _, _, _, _, _, rfl, by omega, by omega, .inr ⟨z0 + z, x9, hx9, ⟨H1.out, HR0.out.2.to HB1.out (Nat.le_refl _) HB1.out.size⟩, ?_⟩⟩⟩
      rw [← HQ0.out]
      exact (raw_add_same z0 z hx9 HDEN.out).symm
    · have hkb : (kc == 0) = false := by
        rw [← HKC.out]
        unfold cmpN
        by_cases h1 : x9 < x
        · rw [if_pos h1]; rfl
        · rw [if_neg h1, if_neg hden]; rfl
      clear hden
      go_wp2_with fail
      refine wp_region_text 10 (fun x9 => x9.cell? ⟨gm, 0, none⟩ = some (.slice (some ⟨g, 0, none⟩) n cap) ∧ x9.cell? ⟨g8, 0, none⟩ = some (.bool neg0) ∧ x9.cell? ⟨g8, 1, none⟩ = some (.slice A0 n0 c0) ∧ x9.cell? ⟨g8, 2, none⟩ = some (.slice D0 m0 d0) ∧ x9.cell? ⟨g6, 0, none⟩ = some (.bool neg) ∧ x9.cell? ⟨g6, 1, none⟩ = some (.slice A n' c')) (by kernel_rfl) (by kernel_rfl) ?_
      have hS : X.drew.cell? ⟨gm, 0, none⟩ = some (.slice (some ⟨g, 0, none⟩) n cap) ∧ X.drew.cell? ⟨g8, 0, none⟩ = some (.bool neg0) ∧ X.drew.cell? ⟨g8, 1, none⟩ = some (.slice A0 n0 c0) ∧ X.drew.cell? ⟨g8, 2, none⟩ = some (.slice D0 m0 d0) ∧ X.drew.cell? ⟨g6, 0, none⟩ = some (.bool neg) ∧ X.drew.cell? ⟨g6, 1, none⟩ = some (.slice A n' c') := ⟨hgm, x0, x1, x2, y0, y1⟩
      have hS0 := And.intro hgm (And.intro x0 (And.intro x1 (And.intro x2 (And.intro y0 y1))))
      refine HT.take (i := 0) (oi := _) (v := ?_) rfl (by kernel_rfl) (by kernel_rfl) (by decide) (fun _ _ _ h => h) (Or.inl ⟨by rfl, ?_⟩) hS ?_
      rotate_left
      · intro wz
        go_simp
        try with_reducible rfl
      simp only [zA, zB, zC, Act.put, zD, zE, zF]
      refine HT.take (i := 1) (oi := _) (v := ?_) rfl (by kernel_rfl) (by kernel_rfl) (by decide) (fun _ _ _ h => h) (Or.inl ⟨by rfl, ?_⟩) hS ?_
      rotate_left
      · intro wz
        go_simp
        try with_reducible rfl
      simp only [zA, zB, zC, Act.put, zD, zE, zF]
      refine HT.take (i := 2) (oi := _) (v := ?_) rfl (by kernel_rfl) (by kernel_rfl) (by decide) (fun _ _ _ h => h) (Or.inl ⟨by rfl, ?_⟩) hS ?_
      rotate_left
      · intro wz
        go_simp
        try with_reducible rfl
      simp only [zA, zB, zC, Act.put, zD, zE, zF]
      refine HT.load (i := 3) (oi := _) (v := ?_) rfl (by kernel_rfl) (by kernel_rfl) (by decide) (fun _ _ _ h => h) (by kernel_rfl) (Or.inl ⟨by rfl, ?_⟩) hS ?_
      rotate_left
      · intro wz hwz
        try dsimp only at hwz
        go_simp
        try with_reducible rfl
      simp only [zA, zB, zC, Act.put, zD, zE, zF]
      refine HT.take (i := 4) (oi := _) (v := ?_) rfl (by kernel_rfl) (by kernel_rfl) (by decide) (fun _ _ _ h => h) (Or.inl ⟨by rfl, ?_⟩) hS ?_
      rotate_left
      · intro wz
        go_simp
        try with_reducible rfl
      simp only [zA, zB, zC, Act.put, zD, zE, zF]
      refine HT.load (i := 5) (oi := _) (v := ?_) rfl (by kernel_rfl) (by kernel_rfl) (by decide) (fun _ _ _ h => h) (by kernel_rfl) (Or.inl ⟨by rfl, ?_⟩) hS ?_
      rotate_left
      · intro wz hwz
        try dsimp only at hwz
        go_simp
        try with_reducible rfl
      simp only [zA, zB, zC, Act.put, zD, zE, zF]
      refine HT.load (i := 6) (oi := _) (v := ?_) rfl (by kernel_rfl) (by kernel_rfl) (by decide) (fun _ _ _ h => h) (by kernel_rfl) (Or.inl ⟨by rfl, ?_⟩) hS ?_
      rotate_left
      · intro wz hwz
        try dsimp only at hwz
        go_simp
        try with_reducible rfl
      simp only [zA, zB, zC, Act.put, zD, zE, zF]
      refine HT.take (i := 7) (oi := _) (v := ?_) rfl (by kernel_rfl) (by kernel_rfl) (by decide) (fun _ _ _ h => h) (Or.inl ⟨by rfl, ?_⟩) hS ?_
      rotate_left
      · intro wz
        go_simp
        try with_reducible rfl
      simp only [zA, zB, zC, Act.put, zD, zE, zF]
      refine HT.take (i := 8) (oi := _) (v := ?_) rfl (by kernel_rfl) (by kernel_rfl) (by decide) (fun _ _ _ h => h) (Or.inl ⟨by rfl, ?_⟩) hS ?_
      rotate_left
      · intro wz
        go_simp
        try with_reducible rfl
      simp only [zA, zB, zC, Act.put, zD, zE, zF]
      refine HT.one (i := 9) (o := _) rfl (by kernel_rfl) (by decide) (by rfl) ?_
      intro K hK
      go_simp
      refine (QADD_raw neg0 neg A0 A D0 D n0 c0 m0 d0 n' c' m d z0 z x9 x hx9 hx (by omega) (by omega) (by omega) (by omega) _ X.heap.size (by exact Nat.le_refl _) (by exact HR0) (by exact HVX)).mono ?_
      rintro e w1 ⟨ng1, A1, n1, c1, D1, m1, d1, rfl, h1, hk1, hl1, hb1⟩
      replace hb1 : Below X.heap.size X w1 := below_undrew hb1
      have H1 := Lib.hid h1
      have HB1 := Lib.hid hb1
      clear h1 hb1
      refine hK.out _ _ (keep6 hS0 HB1.out hgmX hg8X hg8X hg8X hg6X hg6X) ?_
      clear hK K hS
      have hS := keep6 hS0 HB1.out hgmX hg8X hg8X hg8X hg6X hg6X
      try simp only [zA, zB, zC, Act.put, zD, zE, zF]
      refine HT.done (by kernel_rfl) ?_
      clear hS
      simp only [List.drop_succ_cons, List.drop_zero]
      have k0 := (HB1.out.cell (p := ⟨g, p * 3, none⟩) hglX).trans k0
      have k1 := (HB1.out.cell (p := ⟨g, p * 3 + 1, none⟩) hglX).trans k1
      have k2 := (HB1.out.cell (p := ⟨g, p * 3 + 2, none⟩) hglX).trans k2
      have f0 := (HB1.out.frozen (p := ⟨g, p * 3, none⟩) hglX).trans f0
      have f1 := (HB1.out.frozen (p := ⟨g, p * 3 + 1, none⟩) hglX).trans f1
      have f2 := (HB1.out.frozen (p := ⟨g, p * 3 + 2, none⟩) hglX).trans f2
      clear hS0 hgm x0 x1 x2 y0 y1
      go_wp2_with fail
      refine bodyPost_end (v := .tuple #[]) (by simp [results, Tryz.results30, go_sem]) rfl ?_
      refine ⟨rfl, hJ.out.put3 (HBX0.out.trans (HB1.out.mono HBX0.out.size)) hp HO.out ⟨HLN.out, HSUM.out⟩ ⟨_, _, _, _, _, _, _, rfl, by omega, by omega, .inr ⟨(mkRat z0 x9 + mkRat z x).num, (mkRat z0 x9 + mkRat z x).den, Rat.den_pos _, H1.out, ?_⟩⟩⟩
      rw [← HQ0.out]
      exact Rat.mkRat_self _
end Go.Proofs.YtkmcohnhanphdaaGreatDoor
/- edit.rounded. -/
namespace Go.Proofs.YtkmcohnhanphdaaGreatDoor
open Go.RowKit Go.Dw
attribute [local go_sem ↓] Go.wp_at_zero Go.wp_at_succ
theorem near_scale9 (k x d : Nat) (hk : 0 < k) : (k * x * 2 + k * d) / (k * d * 2) = (x * 2 + d) / (d * 2) := by
  rw [show k * x * 2 + k * d = k * (x * 2 + d) by rw [Nat.mul_add, Nat.mul_assoc], show k * d * 2 = k * (d * 2) by rw [Nat.mul_assoc], Nat.mul_div_mul_left _ _ hk]
theorem nearQ_mkRat9 (z : Int) (d : Nat) (hd : 0 < d) : nearQ (mkRat z d) = nearR z d := by
  obtain ⟨h1, h2⟩ := mkRat_fields z d hd
  have hg : 0 < Nat.gcd z.natAbs d := Nat.gcd_pos_of_pos_right _ hd
  obtain ⟨h3, h4⟩ := div_gcd z (Nat.gcd z.natAbs d) hg (Nat.gcd_dvd_left _ _)
  unfold nearQ nearR
  rw [h1, h2, h3]
  have e1 : z.natAbs = Nat.gcd z.natAbs d * (z.natAbs / Nat.gcd z.natAbs d) := (Nat.mul_div_cancel' (Nat.gcd_dvd_left _ _)).symm
  have e2 : d = Nat.gcd z.natAbs d * (d / Nat.gcd z.natAbs d) := (Nat.mul_div_cancel' (Nat.gcd_dvd_right _ _)).symm
  have e3 := near_scale9 (Nat.gcd z.natAbs d) (z.natAbs / Nat.gcd z.natAbs d) (d / Nat.gcd z.natAbs d) hg
  rw [← e1, ← e2] at e3
  rw [← e3]
  have e4 : (z / (Nat.gcd z.natAbs d : Int) < 0) ↔ z < 0 := decide_eq_decide.1 h4
  by_cases hz : z < 0
  · rw [if_pos hz, if_pos (e4.2 hz)]
  · rw [if_neg hz, if_neg (fun h => hz (e4.1 h))]
def roundQ2 (q : Rat) : Int × Bool := (clipV (nearQ q), decide (clipN (nearQ q) = 1))
theorem round_lo {Z : Int} (h : Z < -8388608) : (clipV Z, decide (clipN Z = 1)) = ((-8388608 : Int), true) := by
  unfold clipV clipN; rw [if_neg (by omega), if_pos h, if_neg (by omega), if_pos h]; rfl
theorem round_hi {Z : Int} (h : 8388607 < Z) : (clipV Z, decide (clipN Z = 1)) = ((8388607 : Int), true) := by
  unfold clipV clipN; rw [if_pos h, if_pos h]; rfl
theorem round_in {Z : Int} (h1 : ¬ Z < -8388608) (h2 : ¬ 8388607 < Z) : (clipV Z, decide (clipN Z = 1)) = (Z, false) := by
  unfold clipV clipN; rw [if_neg h2, if_neg h1, if_neg h2, if_neg h1]; rfl
set_option maxRecDepth 100000 in
set_option maxHeartbeats 4000000 in
theorem EROUNDED_any (neg : Bool) (A D : Option Addr) (n c m d K : Nat) (q : Rat) (hK : K ≤ 10000000) (w : World) (B : Nat) (hB : B ≤ w.heap.size) (hs : Hid (SumAt w B [.bool neg, .slice A n c, .slice D m d] q K)) :
    Calls Tryz.prog 33 #[.agg #[.bool neg, .slice A n c, .slice D m d]] w fun e w' => e = .returned (.tuple #[.int .i64 (roundQ2 q).1, .bool (roundQ2 q).2]) ∧ Below w.heap.size w w' := by
  obtain ⟨neg', A', n', c', D', m', d', e, hn, hm, h⟩ := hs.out
  cases e
  obtain ⟨W, gx, hW, hgx, HHW, HBW, HSW⟩ := cell_new w 88 #[.bool neg, .slice A n c, .slice D m d]
  obtain ⟨x0, x1, x2, _, _, _⟩ := three_cells HHW.out
  rcases h with ⟨rfl, rfl⟩ | ⟨z, x, hx0, hr, hq⟩
  · have HV : Hid (roundQ2 0 = (0, false)) := rfl
    have HB2 := HBW
    go_enter Tryz.func33, Tryz.ntmps33
    go_upto_region 1 with (fail)
    rw [← hW, ← hgx]
    clear hW hgx
    go_wp2_with fail
    refine bodyPost_ret (results_tmp2 rfl _ _ _) rfl ?_
    rw [HV.out]
    exact ⟨rfl, HB2.out⟩
  · have hm0 : 0 < m := (hr.2.pos_iff (by omega)).2 hx0
    have hmb : ((m : Int) == 0) = false := by simp; omega
    have HRW := Lib.hid (hr.to HBW.out hB (by have := HSW.out; omega))
    have hgw := blk_lt HHW.out
    obtain ⟨Z, hZ⟩ : ∃ Z, nearR z x = Z := ⟨_, rfl⟩
    have HZ := Lib.hid hZ
    have HQ : Hid (roundQ2 q = (clipV Z, decide (clipN Z = 1))) := by show _ = _; unfold roundQ2; rw [← hq, nearQ_mkRat9 z x hx0, hZ]
    have HZS : Hid (Z < 0 → z < 0) := fun h0 => by
      rw [← hZ] at h0
      unfold nearR at h0
      generalize (z.natAbs * 2 + x) / (x * 2) = k at h0
      split at h0
      · assumption
      · omega
    have HZT : Hid (0 < Z → ¬ z < 0) := fun h0 h1 => by
      rw [← hZ] at h0
      unfold nearR at h0
      rw [if_pos h1] at h0
      generalize (z.natAbs * 2 + x) / (x * 2) = k at h0
      omega
    clear hZ hr hq hs
    go_enter Tryz.func33, Tryz.ntmps33
    go_upto_region 1 with (fail)
    rw [← hW, ← hgx]
    clear hW hgx
    go_wp2_with fail
    refine (QNEAR_raw neg A D n c m d z x hx0 (by omega) (by omega) _ W.heap.size (Nat.le_refl _) HRW).mono ?_
    rintro e w1 ⟨ng1, A1, n1, c1, rfl, hh1, k1, hb1⟩
    rw [HZ.out] at hh1
    have H1 := Lib.hid hh1
    have HB1 := Lib.hid (HBW.out.trans (hb1.mono HBW.out.size))
    obtain ⟨x0, x1, x2⟩ := three_keep (And.intro x0 (And.intro x1 x2)) hb1 (by dsimp only; omega) (by dsimp only; omega) (by dsimp only; omega)
    have HRW1 := Lib.hid (HRW.out.to hb1 (Nat.le_refl _) hb1.size)
    replace hgw := Nat.lt_of_lt_of_le hgw hb1.size
    clear hb1 hh1
    go_wp2_with fail
    refine (ISMALL_any ng1 A1 n1 c1 Z _ w1.heap.size (Nat.le_refl _) H1).mono ?_
    rintro e w2 ⟨rfl, hb2⟩
    have HB2 := Lib.hid (HB1.out.trans (hb2.mono HB1.out.size))
    obtain ⟨x0, x1, x2⟩ := three_keep (And.intro x0 (And.intro x1 x2)) hb2 (by dsimp only; omega) (by dsimp only; omega) (by dsimp only; omega)
    have HRW2 := Lib.hid (HRW1.out.to hb2 (Nat.le_refl _) hb2.size)
    clear hb2 hmb
    by_cases hs : Z.natAbs < 9223372036854775808
    · have he : smallI Z = (Z, true) := by unfold smallI; rw [if_pos hs]
      rw [he]
      clear he
      by_cases hlo : Z < -8388608
      · have d1 : decide (-8388608 ≤ Z) = false := by simp; omega
        have HV : Hid (roundQ2 q = (-8388608, true)) := HQ.out.trans (round_lo hlo)
        have hzz : z < 0 := HZS.out (by omega)
        go_wp2_with fail
        refine (QSIGN_raw neg A D n c m d z x _ w2.heap.size (Nat.le_refl _) HRW2).mono ?_
        rintro e w3 ⟨rfl, hb3⟩
        replace HB2 := Lib.hid (HB2.out.trans (hb3.mono HB2.out.size))
        clear hb3
        go_wp2_with fail
        refine bodyPost_ret (results_tmp2 rfl _ _ _) rfl ?_
        rw [HV.out]
        exact ⟨rfl, HB2.out⟩
      · have d1 : decide (-8388608 ≤ Z) = true := by simp; omega
        by_cases hhi : 8388607 < Z
        · have d2 : decide (Z ≤ 8388607) = false := by simp; omega
          have HV : Hid (roundQ2 q = (8388607, true)) := HQ.out.trans (round_hi hhi)
          have hzz : ¬ z < 0 := Int.not_lt.2 (HZT.out (by omega))
          go_wp2_with fail
          refine (QSIGN_raw neg A D n c m d z x _ w2.heap.size (Nat.le_refl _) HRW2).mono ?_
          rintro e w3 ⟨rfl, hb3⟩
          replace HB2 := Lib.hid (HB2.out.trans (hb3.mono HB2.out.size))
          clear hb3
          go_wp2_with fail
          refine bodyPost_ret (results_tmp2 rfl _ _ _) rfl ?_
          rw [HV.out]
          exact ⟨rfl, HB2.out⟩
        · have d2 : decide (Z ≤ 8388607) = true := by simp; omega
          have HV : Hid (roundQ2 q = (Z, false)) := HQ.out.trans (round_in hlo hhi)
          clear hlo hhi hs
          go_wp2_with fail
          refine bodyPost_ret (results_tmp2 rfl _ _ _) rfl ?_
          rw [HV.out]
          exact ⟨rfl, HB2.out⟩
    · have he : smallI Z = (0, false) := by unfold smallI; rw [if_neg hs]
      rw [he]
      dsimp only
      clear he
      by_cases hz : Z < 0
      · have hzz : z < 0 := HZS.out hz
        have HV : Hid (roundQ2 q = (-8388608, true)) := HQ.out.trans (round_lo (by omega))
        clear hs hz
        go_wp2_with fail
        refine (QSIGN_raw neg A D n c m d z x _ w2.heap.size (Nat.le_refl _) HRW2).mono ?_
        rintro e w3 ⟨rfl, hb3⟩
        replace HB2 := Lib.hid (HB2.out.trans (hb3.mono HB2.out.size))
        clear hb3
        go_wp2_with fail
        refine bodyPost_ret (results_tmp2 rfl _ _ _) rfl ?_
        rw [HV.out]
        exact ⟨rfl, HB2.out⟩
      · have hzz : ¬ z < 0 := Int.not_lt.2 (HZT.out (by omega))
        have HV : Hid (roundQ2 q = (8388607, true)) := HQ.out.trans (round_hi (by omega))
        clear hs hz
        go_wp2_with fail
        refine (QSIGN_raw neg A D n c m d z x _ w2.heap.size (Nat.le_refl _) HRW2).mono ?_
        rintro e w3 ⟨rfl, hb3⟩
        replace HB2 := Lib.hid (HB2.out.trans (hb3.mono HB2.out.size))
        clear hb3
        go_wp2_with fail
        refine bodyPost_ret (results_tmp2 rfl _ _ _) rfl ?_
        rw [HV.out]
        exact ⟨rfl, HB2.out⟩
end Go.Proofs.YtkmcohnhanphdaaGreatDoor
