/- Bytes: rows of bytes in memory, strings as lists of bytes, rows of chunks. -/
import Derived.Test.YtkmcohnhanphdaaGreatDoorWc
import Derived.Test.YtkmcohnhanphdaaGreatDoorWc
import Derived.Test.YtkmcohnhanphdaaGreatDoorWb
import Derived.Test.YtkmcohnhanphdaaGreatDoorRegion
import Derived.Lib.AppendStr
set_option linter.unusedSimpArgs false
set_option linter.unusedVariables false
namespace Go.Proofs.YtkmcohnhanphdaaGreatDoor
open Go.RowKit Go.Dw
abbrev By := List UInt8
/-- a chunk: its name and its bytes -/
abbrev Ck := By × By
def byV (b : UInt8) : Value := .int .u8 b.toNat
def bysC (bs : By) : List Value := bs.map byV
def byOf (bs : By) (j : Nat) : UInt8 := bs.getD j 0
def strOf (bs : By) : Value := .string ⟨bs.toArray⟩
theorem bysC_length (bs : By) : (bysC bs).length = bs.length := by simp [bysC]
theorem bysC_append (a b : By) : bysC (a ++ b) = bysC a ++ bysC b := by simp [bysC]
theorem bysC_get {bs : By} {j : Nat} (h : j < bs.length) : (bysC bs)[j]? = some (byV (byOf bs j)) := by simp [bysC, byOf, List.getD, h]
theorem strCells_eq (bs : By) : Lib.strCells ⟨bs.toArray⟩ = bysC bs := by simp [Lib.strCells, bysC, byV]
theorem strOf_size (bs : By) : (ByteArray.mk bs.toArray).size = bs.length := by show bs.toArray.size = _; simp
theorem byOf_append_left {a b : By} {j : Nat} (h : j < a.length) : byOf (a ++ b) j = byOf a j := by simp [byOf, List.getD, List.getElem?_append_left h]
/-- a row of bytes that lies below block B -/
def BysAt (w : World) (B : Nat) (A : Option Addr) (n : Nat) (bs : By) : Prop :=
  bs.length = n ∧ ∀ j, j < n → ∃ b o, A = some ⟨b, o, none⟩ ∧ b < B ∧ w.cell? ⟨b, o + j, none⟩ = some (byV (byOf bs j))
theorem BysAt.below {w w' : World} {B B' : Nat} {A : Option Addr} {n : Nat} {bs : By} (h : BysAt w B A n bs) (hb : Below B' w w') (hB : B ≤ B') : BysAt w' B A n bs :=
  ⟨h.1, fun k hk => by
    obtain ⟨b, o, e, h1, h2⟩ := h.2 k hk
    exact ⟨b, o, e, h1, (hb.cell (p := ⟨b, o + k, none⟩) (by dsimp only; omega)).trans h2⟩⟩
theorem BysAt.mono {w : World} {B B' : Nat} {A : Option Addr} {n : Nat} {bs : By} (h : BysAt w B A n bs) (hB : B ≤ B') : BysAt w B' A n bs :=
  ⟨h.1, fun k hk => by
    obtain ⟨b, o, e, h1, h2⟩ := h.2 k hk
    exact ⟨b, o, e, by omega, h2⟩⟩
theorem BysAt.nil (w : World) (B : Nat) (A : Option Addr) : BysAt w B A 0 [] := ⟨rfl, fun k hk => by omega⟩
/-- a row of bytes of the call's own -/
def OwnBys (w : World) (base : Nat) (v : Value) (bs : By) : Prop := w.ownsRow base 5 1 v bs.length (bysC bs)
theorem byte_info : (Tryz.prog.info? 5).map (fun i => (i.zero, i.size, i.bytes)) = some (some (.int .u8 0), 1, 1) := by kernel_rfl
theorem OwnBys.form {w : World} {base : Nat} {v : Value} {bs : By} (h : OwnBys w base v bs) : ∃ A c, v = .slice A bs.length c ∧ bs.length ≤ c ∧ c ≤ maxLen := own_form h
theorem OwnBys.below {w w' : World} {base : Nat} {v : Value} {bs : By} (h : OwnBys w base v bs) (hb : Below w.heap.size w w') : OwnBys w' base v bs := own_below h hb
theorem OwnBys.at_ {w : World} {base : Nat} {A : Option Addr} {n c : Nat} {bs : By} (h : OwnBys w base (.slice A n c) bs) : BysAt w w.heap.size A n bs := by
  obtain ⟨A', c', e, _, _⟩ := h.form
  injection e with e1 e2 e3
  subst e1 e2 e3
  refine ⟨rfl, fun k hk => ?_⟩
  have hh : w.ownsRow base 5 1 (.slice A bs.length c) bs.length (bysC bs) := h
  rcases hh.2 with ⟨_, h1⟩ | ⟨g, cap, cur, e, hb, hhp, h1, h2, _⟩
  · omega
  · injection e with e1 e2 e3
    refine ⟨g, 0, e1, (Array.getElem?_eq_some_iff.1 hhp).1, ?_⟩
    subst e1
    rw [Nat.zero_add, hh.cellAt k (by omega), bysC_get hk]
/-- a row of chunks that lies below block B -/
def CksAt (w : World) (B : Nat) (A : Option Addr) (n : Nat) (l : List Ck) : Prop :=
  l.length = n ∧ ∀ k, k < n → ∃ b o, A = some ⟨b, o, none⟩ ∧ b < B ∧ w.cell? ⟨b, o + k * 2, none⟩ = some (strOf (l.getD k ([], [])).1) ∧ ∃ A' c', w.cell? ⟨b, o + k * 2 + 1, none⟩ = some (.slice A' (l.getD k ([], [])).2.length c') ∧
    (l.getD k ([], [])).2.length ≤ c' ∧ c' ≤ maxLen ∧ BysAt w B A' (l.getD k ([], [])).2.length (l.getD k ([], [])).2
theorem CksAt.below {w w' : World} {B B' : Nat} {A : Option Addr} {n : Nat} {l : List Ck} (h : CksAt w B A n l) (hb : Below B' w w') (hB : B ≤ B') : CksAt w' B A n l :=
  ⟨h.1, fun k hk => by
    obtain ⟨b, o, e, h1, h2, A', c', h3, h4, h5, h6⟩ := h.2 k hk
    exact ⟨b, o, e, h1, (hb.cell (p := ⟨b, o + k * 2, none⟩) (by dsimp only; omega)).trans h2, A', c', (hb.cell (p := ⟨b, o + k * 2 + 1, none⟩) (by dsimp only; omega)).trans h3, h4, h5, h6.below hb hB⟩⟩
theorem CksAt.mono {w : World} {B B' : Nat} {A : Option Addr} {n : Nat} {l : List Ck} (h : CksAt w B A n l) (hB : B ≤ B') : CksAt w B' A n l :=
  ⟨h.1, fun k hk => by
    obtain ⟨b, o, e, h1, h2, A', c', h3, h4, h5, h6⟩ := h.2 k hk
    exact ⟨b, o, e, by omega, h2, A', c', h3, h4, h5, h6.mono hB⟩⟩
theorem CksAt.nil (w : World) (B : Nat) (A : Option Addr) : CksAt w B A 0 [] := ⟨rfl, fun k hk => by omega⟩
/-- w' is w but for the row at A and new blocks; the row at A' is the one at A or a new one -/
def blkA : Option Addr → Option Nat
  | some a => some a.block
  | none => none
theorem own_blkA (A : Option Addr) (n c : Nat) : Value.ownBlock (.slice A n c) = blkA A := by cases A <;> rfl
structure Gr (w w' : World) (A A' : Option Addr) : Prop where
  g : w.grownBy w' (blkA A)
  at_ : blkA A' = blkA A ∨ ∃ g, blkA A' = some g ∧ w.heap.size ≤ g
theorem Gr.refl (w : World) (A : Option Addr) : Gr w w A A := ⟨⟨rfl, rfl, rfl, Nat.le_refl _, fun _ _ _ => rfl⟩, .inl rfl⟩
theorem Gr.trans {w w1 w2 : World} {A A1 A2 : Option Addr} (h : Gr w w1 A A1) (k : Gr w1 w2 A1 A2) : Gr w w2 A A2 := by
  refine ⟨⟨k.g.os.trans h.g.os, k.g.tape.trans h.g.tape, k.g.output.trans h.g.output, Nat.le_trans h.g.size k.g.size, fun i hi hne => ?_⟩, ?_⟩
  · refine (k.g.block i (Nat.lt_of_lt_of_le hi h.g.size) (fun e => ?_)).trans (h.g.block i hi hne)
    rcases h.at_ with h1 | ⟨g, h1, h2⟩
    · exact hne (e.trans h1)
    · rw [h1] at e; injection e with e; omega
  · rcases k.at_ with k1 | ⟨g, k1, k2⟩
    · rcases h.at_ with h1 | ⟨g, h1, h2⟩
      · exact .inl (k1.trans h1)
      · exact .inr ⟨g, k1.trans h1, h2⟩
    · exact .inr ⟨g, k1, Nat.le_trans h.g.size k2⟩
theorem Gr.cell {w w' : World} {A A' : Option Addr} (h : Gr w w' A A') {p : Addr} (hp : p.block < w.heap.size) (hne : some p.block ≠ blkA A) : w'.cell? p = w.cell? p :=
  World.cell?_of_block (h.g.block p.block hp hne)
theorem Gr.alloc {w w' : World} {A A' : Option Addr} {o : Obj} (h : Gr (w.alloc o) w' A A') : Gr w w' A A' := by
  refine ⟨⟨h.g.os, h.g.tape, h.g.output, Nat.le_trans (by simp) h.g.size, fun i hi hne => ?_⟩, ?_⟩
  · exact (h.g.block i (by simp; omega) hne).trans (heap_alloc_old w o hi)
  · rcases h.at_ with h1 | ⟨g, h1, h2⟩
    · exact .inl h1
    · exact .inr ⟨g, h1, Nat.le_trans (by simp) h2⟩
theorem Gr.below {w w' : World} {A A' : Option Addr} {base : Nat} (h : Gr w w' A A') (hb : base ≤ w.heap.size) (hA : ∀ k, blkA A = some k → base ≤ k) : Below base w w' := (Below.refl base w).grown h.g hb hA
theorem Gr.of {w w' : World} {A A' : Option Addr} {n n' c c' : Nat} (h : w.grownBy w' (Value.slice A n c).ownBlock) (k : (Value.slice A' n' c').ownBlock = (Value.slice A n c).ownBlock ∨ (Value.slice A' n' c').ownBlock = some w.heap.size) : Gr w w' A A' := by
  rw [own_blkA] at h k
  rw [own_blkA] at k
  exact ⟨h, k.imp id fun e => ⟨_, e, Nat.le_refl _⟩⟩
theorem own_lt_by {w : World} {base : Nat} {A : Option Addr} {n c : Nat} {bs : By} (h : OwnBys w base (.slice A n c) bs) : ∀ k, blkA A = some k → base ≤ k ∧ k < w.heap.size := by
  intro k hk
  rw [← own_blkA A n c] at hk
  exact own_lt h hk
end Go.Proofs.YtkmcohnhanphdaaGreatDoor
