/- Whole numbers in memory: a row of digits read below a block number; a block of digits known whole. -/
import Derived.WalkKit
import Derived.WalkSpells
import Derived.WalkLawsBesides
import Derived.Lib.Hide
import Derived.OwnWalk
import Derived.Laws.Rows
import Derived.Laws.MakeOwn
import Derived.Test.YtkmcohnhanphdaaGreatDoorXa
import Derived.Test.YtkmcohnhanphdaaGreatDoorYa
set_option linter.unusedSimpArgs false
set_option linter.unusedVariables false
namespace Go.Dw
open Go.RowKit
def TyAt (T : TypeId) (w : World) (b : Nat) : Prop := ∃ cs fr, w.heap[b]? = some (.cells cs T fr)
def RowAt (k : IntKind) (T : TypeId) (w : World) (B : Nat) (A : Option Addr) (n : Nat) (xs : List Nat) : Prop :=
  xs.length = n ∧ ∀ i, i < n → ∃ b o, A = some ⟨b, o, none⟩ ∧ b < B ∧ TyAt T w b ∧ w.cell? ⟨b, o + i, none⟩ = some (.int k (xs.getD i 0 : Nat))
def NumAt (k : IntKind) (T : TypeId) (b : Nat) (w : World) (B : Nat) (A : Option Addr) (n c x : Nat) : Prop :=
  n ≤ c ∧ c ≤ maxLen ∧ ∃ xs, CanN b xs ∧ valB b xs = x ∧ RowAt k T w B A n xs
section
variable {k : IntKind} {T : TypeId} {b : Nat} {w w' : World} {B B' n c x : Nat} {A : Option Addr} {xs : List Nat}
theorem TyAt.below {q : Nat} (h : TyAt T w q) (hb : Below B' w w') (hq : q < B') : TyAt T w' q := by
  obtain ⟨cs, fr, h⟩ := h
  exact ⟨cs, fr, (hb.block q hq).trans h⟩
theorem TyAt.set {q : Nat} (h : TyAt T w q) (p : Addr) (u : Value) : TyAt T (w.setCell p u) q := by
  obtain ⟨cs, fr, h⟩ := h
  by_cases hp : q = p.block
  · simp only [TyAt, World.setCell, Array.getElem?_modify, ← hp, h]
    simp
  · exact ⟨cs, fr, (Below.heap_setCell w p u q hp).trans h⟩
theorem RowAt.below (h : RowAt k T w B A n xs) (hb : Below B' w w') (hB : B ≤ B') : RowAt k T w' B A n xs :=
  ⟨h.1, fun i hi => by
    obtain ⟨q, o, e, hlt, ht, hc⟩ := h.2 i hi
    exact ⟨q, o, e, hlt, ht.below hb (by omega), (hb.cell (p := ⟨q, o + i, none⟩) (by dsimp only; omega)).trans hc⟩⟩
theorem RowAt.mono (h : RowAt k T w B A n xs) (hB : B ≤ B') : RowAt k T w B' A n xs :=
  ⟨h.1, fun i hi => by
    obtain ⟨q, o, e, hlt, hc⟩ := h.2 i hi
    exact ⟨q, o, e, by omega, hc⟩⟩
theorem RowAt.nil (k : IntKind) (T : TypeId) (w : World) (B : Nat) (A : Option Addr) : RowAt k T w B A 0 [] := ⟨rfl, fun i hi => by omega⟩
theorem RowAt.addr (h : RowAt k T w B A n xs) (hn : 0 < n) : ∃ q o, A = some ⟨q, o, none⟩ ∧ q < B := by
  obtain ⟨q, o, e, hlt, _⟩ := h.2 0 hn
  exact ⟨q, o, e, hlt⟩
theorem RowAt.cell {q o : Nat} (h : RowAt k T w B (some ⟨q, o, none⟩) n xs) {i : Nat} (hi : i < n) : w.cell? ⟨q, o + i, none⟩ = some (.int k (xs.getD i 0 : Nat)) := by
  obtain ⟨q', o', e, _, _, hc⟩ := h.2 i hi
  injection e with e
  injection e with e1 e2
  subst e1 e2
  exact hc
theorem RowAt.take (h : RowAt k T w B A n xs) {m : Nat} (hm : m ≤ n) : RowAt k T w B A m (xs.take m) :=
  ⟨by rw [List.length_take, h.1, Nat.min_eq_left hm], fun i hi => by
    obtain ⟨q, o, e, hlt, ht, hc⟩ := h.2 i (by omega)
    refine ⟨q, o, e, hlt, ht, ?_⟩
    rw [hc]
    simp [List.getD, List.getElem?_take_of_lt hi]⟩
theorem RowAt.set_far (h : RowAt k T w B A n xs) {T' : TypeId} {p : Addr} (hp : TyAt T' w p.block) (hne : T ≠ T') (u : Value) : RowAt k T (w.setCell p u) B A n xs :=
  ⟨h.1, fun i hi => by
    obtain ⟨q, o, e, hlt, ht, hc⟩ := h.2 i hi
    have hq : q ≠ p.block := fun e9 => by
      obtain ⟨cs, fr, h1⟩ := ht
      obtain ⟨cs', fr', h2⟩ := hp
      rw [e9, h2] at h1
      injection h1 with h1
      injection h1 with _ h3
      exact hne h3.symm
    exact ⟨q, o, e, hlt, ht.set p u, (World.cell?_of_block (w := w) (a := ⟨q, o + i, none⟩) (Below.heap_setCell w p u q hq)).trans hc⟩⟩
theorem NumAt.below (h : NumAt k T b w B A n c x) (hb : Below B' w w') (hB : B ≤ B') : NumAt k T b w' B A n c x := by
  obtain ⟨h1, h2, xs, h3, h4, h5⟩ := h
  exact ⟨h1, h2, xs, h3, h4, h5.below hb hB⟩
theorem NumAt.mono (h : NumAt k T b w B A n c x) (hB : B ≤ B') : NumAt k T b w B' A n c x := by
  obtain ⟨h1, h2, xs, h3, h4, h5⟩ := h
  exact ⟨h1, h2, xs, h3, h4, h5.mono hB⟩
theorem NumAt.set_far (h : NumAt k T b w B A n c x) {T' : TypeId} {p : Addr} (hp : TyAt T' w p.block) (hne : T ≠ T') (u : Value) : NumAt k T b (w.setCell p u) B A n c x := by
  obtain ⟨h1, h2, xs, h3, h4, h5⟩ := h
  exact ⟨h1, h2, xs, h3, h4, h5.set_far hp hne u⟩
theorem NumAt.to (h : NumAt k T b w B A n c x) (hb : Below B' w w') (hB : B ≤ B') (hC : B ≤ w'.heap.size) : NumAt k T b w' w'.heap.size A n c x := (h.below hb hB).mono hC
theorem NumAt.of_block {q o : Nat} (h : NumAt k T b w B (some ⟨q, o, none⟩) n c x) (hq : w'.heap[q]? = w.heap[q]?) : NumAt k T b w' B (some ⟨q, o, none⟩) n c x := by
  obtain ⟨h1, h2, xs, h3, h4, h5⟩ := h
  refine ⟨h1, h2, xs, h3, h4, h5.1, fun i hi => ?_⟩
  obtain ⟨q2, o2, e, hlt, ⟨cs, fr, ht⟩, hc⟩ := h5.2 i hi
  injection e with e
  injection e with e1 e2
  subst e1 e2
  exact ⟨q, o, rfl, hlt, ⟨cs, fr, hq.trans ht⟩, (World.cell?_of_block (w := w) (a := ⟨q, o + i, none⟩) hq).trans hc⟩
theorem NumAt.nil (k : IntKind) (T : TypeId) (b : Nat) (w : World) (B : Nat) : NumAt k T b w B none 0 0 0 := ⟨Nat.le_refl _, Nat.zero_le _, [], CanN.nil b, rfl, RowAt.nil k T w B none⟩
theorem NumAt.pos_iff (hb : 0 < b) (h : NumAt k T b w B A n c x) : 0 < n ↔ 0 < x := by
  obtain ⟨_, _, xs, h3, rfl, h5⟩ := h
  constructor
  · intro hn
    have h1 := h3.ge (by intro e; rw [e] at h5; have := h5.1; simp at this; omega)
    have h2 := Nat.pow_pos (n := xs.length - 1) hb
    omega
  · intro hx
    refine Nat.pos_of_ne_zero fun e => ?_
    have h1 := h5.1
    rw [e] at h1
    rw [List.eq_nil_of_length_eq_zero h1] at hx
    simp [valB] at hx
theorem NumAt.lt_pow (h : NumAt k T b w B A n c x) : x < b ^ n := by
  obtain ⟨_, _, xs, h3, rfl, h5⟩ := h
  rw [← h5.1]
  exact valB_lt h3.1
theorem NumAt.len_le (hb : 0 < b) (h : NumAt k T b w B A n c x) {m : Nat} (hx : x < b ^ m) : n ≤ m := by
  obtain ⟨_, _, xs, h3, rfl, h5⟩ := h
  rw [← h5.1]
  refine Nat.le_of_not_lt fun h9 => ?_
  have h1 := h3.ge (by intro e; rw [e] at h9; simp at h9)
  have h2 := Nat.pow_le_pow_right hb (show m ≤ xs.length - 1 by omega)
  omega
theorem NumAt.len_mono (hb : 0 < b) {A' : Option Addr} {n' c' x' : Nat} (h : NumAt k T b w B A n c x) (h' : NumAt k T b w' B' A' n' c' x') (hx : x ≤ x') : n ≤ n' :=
  h.len_le hb (Nat.lt_of_le_of_lt hx h'.lt_pow)
end
def cellsN (k : IntKind) (L : List Nat) : Array Value := (L.map fun d => Value.int k ((d : Nat) : Int)).toArray
def BlkN (k : IntKind) (T : TypeId) (w : World) (g : Nat) (L : List Nat) : Prop := w.heap[g]? = some (.cells (cellsN k L) T (0, 0))
section
variable {k : IntKind} {T : TypeId} {w w' : World} {g : Nat} {L : List Nat}
theorem cellsN_get (k : IntKind) (L : List Nat) {i : Nat} (hi : i < L.length) : (cellsN k L)[i]? = some (.int k (L.getD i 0 : Nat)) := by
  simp [cellsN, hi, List.getD]
theorem BlkN.cell (h : BlkN k T w g L) {i : Nat} (hi : i < L.length) : w.cell? ⟨g, i, none⟩ = some (.int k (L.getD i 0 : Nat)) :=
  (cell_of_row w g i _ T (0, 0) h).trans (cellsN_get k L hi)
theorem BlkN.frozen (h : BlkN k T w g L) (i : Nat) : w.frozen? ⟨g, i, none⟩ = false := frozen_of_row w g i _ T h
theorem BlkN.lt (h : BlkN k T w g L) : g < w.heap.size := (Array.getElem?_eq_some_iff.1 h).1
theorem BlkN.below (h : BlkN k T w g L) {B : Nat} (hb : Below B w w') (hg : g < B) : BlkN k T w' g L := (hb.block g hg).trans h
theorem BlkN.alloc (h : BlkN k T w g L) (o : Obj) : BlkN k T (w.alloc o) g L := (Below.heap_alloc w o g h.lt).trans h
theorem BlkN.drew (h : BlkN k T w g L) : BlkN k T w.drew g L := h
theorem BlkN.far (h : BlkN k T w g L) {p : Addr} (hp : g ≠ p.block) (u : Value) : BlkN k T (w.setCell p u) g L := (Below.heap_setCell w p u g hp).trans h
theorem BlkN.set (h : BlkN k T w g L) (i : Nat) (d : Nat) : BlkN k T (w.setCell ⟨g, i, none⟩ (.int k ((d : Nat) : Int))) g (L.set i d) := by
  have h1 := heap_setCell_same w g i _ T (.int k ((d : Nat) : Int)) h
  unfold BlkN
  rw [h1]
  congr 2
  simp [cellsN, List.map_set]
theorem BlkN.ty (h : BlkN k T w g L) : TyAt T w g := ⟨_, _, h⟩
theorem BlkN.row (h : BlkN k T w g L) {B : Nat} (hB : g < B) : RowAt k T w B (some ⟨g, 0, none⟩) L.length L :=
  ⟨rfl, fun i hi => ⟨g, 0, rfl, hB, h.ty, by rw [Nat.zero_add]; exact h.cell hi⟩⟩
theorem BlkN.piece (h : BlkN k T w g L) {B : Nat} (hB : g < B) {j n : Nat} (hj : j + n ≤ L.length) : RowAt k T w B (some ⟨g, j, none⟩) n ((L.drop j).take n) :=
  ⟨by simp; omega, fun i hi => ⟨g, j, rfl, hB, h.ty, by
    rw [h.cell (by omega)]
    simp [List.getD, List.getElem?_take_of_lt hi]⟩⟩
theorem BlkN.mk (k : IntKind) (T : TypeId) (w : World) (L : List Nat) : BlkN k T (w.alloc (.cells (cellsN k L) T)) w.heap.size L := heap_alloc_new w _
theorem cellsN_zeros (k : IntKind) (n : Nat) : cellsN k (List.replicate n 0) = (List.replicate n (Value.int k 0)).toArray := by simp [cellsN]
end
theorem run_makeN {P : Program} (t e : TypeId) (i : TypeInfo) (k : IntKind) (ht : P.underlying t = some (.slice e)) (hi : P.info? e = some i) (hz : i.zero = some (.int k 0)) (hsize : i.size = 1) (n : Nat) (hb : i.bytes * n ≤ 281474976710656) (h63 : n ≤ 9223372036854775807) (w : World) :
    (Instr.makeSlice t (.int .i64 n) (.int .i64 n)).run P w = .ok (.slice (some ⟨w.heap.size, 0, none⟩) n n) (w.alloc (.cells (cellsN k (List.replicate n 0)) e)) := by
  have hb' : (i.bytes : Int) * (n : Int) ≤ 281474976710656 := by
    have h : ((i.bytes * n : Nat) : Int) ≤ 281474976710656 := by omega
    rwa [Int.natCast_mul] at h
  have hr := run_make (P := P) w t e i (.int k 0) ht hi hz .i64 .i64 n n (by omega) (Int.le_refl _) hb' (by omega)
  have hz1 : (Value.int k 0).cells = #[Value.int k 0] := rfl
  simp only [Int.toNat_natCast, hsize, Nat.mul_one, hz1] at hr
  rw [hr]
  have he : madeCells #[Value.int k 0] n = cellsN k (List.replicate n 0) := by
    apply Array.ext'
    rw [toList_madeCells_one, cellsN_zeros]
  rw [he]
end Go.Dw
/- Rows of numbers of the call's own, of any kind and element type, to which is appended. -/
namespace Go.Dw
open Go.RowKit
def OwnN (k : IntKind) (E : TypeId) (w : World) (B : Nat) (A : Option Addr) (n c : Nat) (L : List Nat) : Prop := L.length = n ∧ w.ownsRow B E 1 (.slice A n c) n (L.map fun d => Value.int k ((d : Nat) : Int))
section
variable {k : IntKind} {E : TypeId} {w w' : World} {B B' n c : Nat} {A : Option Addr} {L : List Nat}
theorem OwnN.nil (k : IntKind) (E : TypeId) (w : World) (B : Nat) : OwnN k E w B none 0 0 [] := ⟨rfl, World.ownsRow_nil _ _ _ _⟩
theorem OwnN.below (h : OwnN k E w B A n c L) (hb : Below w.heap.size w w') : OwnN k E w' B A n c L := ⟨h.1, own_below h.2 hb⟩
theorem OwnN.drew (h : OwnN k E w B A n c L) : OwnN k E w.drew B A n c L := h
theorem OwnN.form (h : OwnN k E w B A n c L) : n ≤ c ∧ c ≤ maxLen := by
  obtain ⟨A', c', e, h1, h2⟩ := own_form h.2
  injection e with _ _ e3
  subst e3
  exact ⟨h1, h2⟩
theorem OwnN.addr (h : OwnN k E w B A n c L) (hn : 0 < n) : ∃ g, A = some ⟨g, 0, none⟩ ∧ B ≤ g ∧ g < w.heap.size := by
  rcases h.2.2 with ⟨e, h0⟩ | ⟨g, cap, cur, e, hb, hh, _⟩
  · omega
  · injection e with e1
    exact ⟨g, e1, hb, (Array.getElem?_eq_some_iff.1 hh).1⟩
theorem OwnN.cell {g : Nat} (h : OwnN k E w B (some ⟨g, 0, none⟩) n c L) {i : Nat} (hi : i < n) : w.cell? ⟨g, i, none⟩ = some (.int k (L.getD i 0 : Nat)) := by
  have h1 := h.2.cellAt i (by omega)
  have hl := h.1
  rw [h1]
  simp [List.getD, show i < L.length by omega]
theorem OwnN.frozen {g : Nat} (h : OwnN k E w B (some ⟨g, 0, none⟩) n c L) (i : Nat) : w.frozen? ⟨g, i, none⟩ = false := h.2.frozenAt i
theorem OwnN.set {g : Nat} (h : OwnN k E w B (some ⟨g, 0, none⟩) n c L) (i d : Nat) : OwnN k E (w.setCell ⟨g, i, none⟩ (.int k ((d : Nat) : Int))) B (some ⟨g, 0, none⟩) n c (L.set i d) := by
  refine ⟨by rw [List.length_set]; exact h.1, ?_⟩
  have := (h.2.stored i (.int k ((d : Nat) : Int))).1
  rwa [← List.map_set] at this
theorem OwnN.ty {g : Nat} (h : OwnN k E w B (some ⟨g, 0, none⟩) n c L) : TyAt E w g := by
  rcases h.2.2 with ⟨e, _⟩ | ⟨g2, cap, cur, e, _, hh, _⟩
  · injection e with e; cases e
  · injection e with e
    injection e with e
    injection e with e
    subst e
    exact ⟨_, _, hh⟩
theorem OwnN.row (h : OwnN k E w B A n c L) : RowAt k E w w.heap.size A n L := by
  refine ⟨h.1, fun i hi => ?_⟩
  obtain ⟨g, rfl, _, hg⟩ := h.addr (by omega)
  exact ⟨g, 0, rfl, hg, h.ty, by rw [Nat.zero_add]; exact h.cell hi⟩
theorem OwnN.num {b : Nat} (h : OwnN k E w B A n c L) (hc : CanN b L) : NumAt k E b w w.heap.size A n c (valB b L) := ⟨h.form.1, h.form.2, L, hc, rfl, h.row⟩
end
theorem wpList_push_num {P : Program} {ops : Array Oper} {rest : List Oper} {o : Oper} {a : Act} {Q : Exit → Act → World → Prop} {w0 : World} (hgd : o.guard = none) (s x : Operand) (T E : TypeId) (k : IntKind) (bytes : Nat)
    (ho : o.op = .call { callee := .builtin .append, args := #[s, x], argTypes := #[T, T] }) (hT : P.underlying T = some (.slice E)) (hE : (P.info? E).map (fun i => (i.zero, i.size, i.bytes)) = some (some (.int k 0), 1, bytes)) (base : Nat) (A : Option Addr) (n c : Nat) (L : List Nat) (d : Nat) (z : Int) (hz : z = (d : Int)) (g0 : Nat) (hg0 : w0.heap.size = g0)
    (hs : a.eval s = .slice A n c) (hx : a.eval x = .slice (some ⟨g0, 0, none⟩) 1 1) (hown : OwnN k E w0 base A n c L) (hn : n ≤ 1000000000000) (hbytes : bytes ≤ 8) (hb : base ≤ w0.heap.size)
    (h : ∀ g cap w', Hid (OwnN k E w' base (some ⟨g, 0, none⟩) (n + 1) cap (L ++ [d])) → Hid (Below base w0 w') → Hid ((A = some ⟨g, 0, none⟩ ∨ w0.heap.size ≤ g) ∧ ∀ b, b < w0.heap.size → (∀ g', A = some ⟨g', 0, none⟩ → b ≠ g') → w'.heap[b]? = w0.heap[b]?) → wpList P ops Q rest (a.put o.dst (.slice (some ⟨g, 0, none⟩) (n + 1) cap)) w') :
    wpList P ops Q (o :: rest) a (w0.alloc (.cells #[.int k z] E)) := by
  obtain ⟨i1, e0, e1, e2, e3⟩ := info_parts hE
  subst hg0
  subst hz
  have hl := hown.1
  have hb9 : (n + 1) * bytes ≤ (n + 1) * 8 := Nat.mul_le_mul_left _ hbytes
  refine wpList_append_lies _ hgd s x T ho base E i1 _ 1 bytes hT e0 e1 e2 e3 rfl (by omega) (.slice A n c) n _ hs (hown.2.alloc _) ⟨w0.heap.size, 0, none⟩ 1 1 [.int k ((d : Nat) : Int)] hx rfl (cell_one_new _ _ _) (by intro u hu; simp at hu; subst hu; rfl) (by omega) (by simp only [maxLen]; omega) (by omega) (by simp; omega) _ rfl ?_
  intro g cap w' h1 h2 h3 _
  refine h g cap w' ⟨by simp [hl], by simpa using h1⟩ ((((Below.refl base w0).alloc hb _).grown h2 (by simp; omega) (fun b e => (own_lt hown.2 e).1))) ⟨?_, fun b hb hne => ?_⟩
  · rcases h3 with h3 | h3
    · left
      cases A with
      | none => simp [Value.ownBlock] at h3
      | some ad =>
        have hn0 : (some ad : Option Addr) = some ⟨g, 0, none⟩ := by
          simp only [Value.ownBlock, Option.some.injEq] at h3
          rcases hown.2.2 with ⟨e, _⟩ | ⟨g2, cap2, cur, e, _⟩
          · injection e with e; cases e
          · injection e with e
            rw [e]
            injection e with e
            subst e
            have h4 : g2 = g := h3
            rw [h4]
        exact hn0
    · right
      simp only [Value.ownBlock, Option.some.injEq, World.size_alloc] at h3
      omega
  · refine (h2.block b (by simp; omega) (fun e9 => ?_)).trans (Below.heap_alloc _ _ _ hb)
    cases A with
    | none => simp [Value.ownBlock] at e9
    | some ad =>
      rcases hown.2.2 with ⟨e, _⟩ | ⟨g2, cap2, cur, e, _⟩
      · injection e with e; cases e
      · injection e with e
        rw [e] at e9
        simp only [Value.ownBlock, Option.some.injEq] at e9
        exact hne g2 e e9
end Go.Dw
