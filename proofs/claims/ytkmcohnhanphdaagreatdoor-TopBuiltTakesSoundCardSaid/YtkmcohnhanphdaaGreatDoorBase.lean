/- Plain words for memory: a slice of integers, a slice of such slices, read as lists below a block number. No program in sight. -/
import Derived.WalkKit
import Derived.WalkSpells
import Derived.WalkLawsBesides
import Derived.Lib.Hide
import Derived.Deep.QuietTactic
import Derived.Test.YtkmcohnhanphdaaGreatDoorSpec
set_option linter.unusedSimpArgs false
set_option linter.unusedVariables false
namespace Go.Dw
open Go.RowKit

theorem block_of_add (a : Addr) (n : Nat) : (a.add n).block = a.block := by unfold Addr.add; split <;> rfl
theorem add_zero (a : Addr) : a.add 0 = a := by simp [Addr.add]

/-- slice (A, n) reads as the integers xs, below block B -/
def IntsAt (w : World) (B : Nat) (A : Option Addr) (n : Nat) (xs : List Int) : Prop :=
  xs.length = n ∧ ∀ k, k < n → ∃ ad, A = some ad ∧ ad.block < B ∧ w.cell? (ad.add k) = some (.int .i64 (elOf xs k))

/-- slice (A, n) of slices reads as xss, below block B -/
def RowsAt (w : World) (B : Nat) (A : Option Addr) (n : Nat) (xss : List (List Int)) : Prop :=
  xss.length = n ∧ n ≤ maxLen ∧ ∀ k, k < n → ∃ ad, A = some ad ∧ ad.block < B ∧ ∃ A' n' c', w.cell? (ad.add k) = some (.slice A' n' c') ∧ n' ≤ c' ∧ c' ≤ maxLen ∧ IntsAt w B A' n' (rowOf xss k)

theorem IntsAt.below {w w' : World} {B B' A n xs} (h : IntsAt w B A n xs) (hb : Below B' w w') (hB : B ≤ B') : IntsAt w' B A n xs :=
  ⟨h.1, fun k hk => by
    obtain ⟨ad, e, hlt, hc⟩ := h.2 k hk
    exact ⟨ad, e, hlt, (hb.cell (p := ad.add k) (by rw [block_of_add]; omega)).trans hc⟩⟩
theorem RowsAt.below {w w' : World} {B B' A n xs} (h : RowsAt w B A n xs) (hb : Below B' w w') (hB : B ≤ B') : RowsAt w' B A n xs :=
  ⟨h.1, h.2.1, fun k hk => by
    obtain ⟨ad, e, hlt, A', n', c', hc, h1, h2, hi⟩ := h.2.2 k hk
    exact ⟨ad, e, hlt, A', n', c', (hb.cell (p := ad.add k) (by rw [block_of_add]; omega)).trans hc, h1, h2, hi.below hb hB⟩⟩
theorem IntsAt.mono {w : World} {B B' A n xs} (h : IntsAt w B A n xs) (hB : B ≤ B') : IntsAt w B' A n xs :=
  ⟨h.1, fun k hk => by
    obtain ⟨ad, e, hlt, hc⟩ := h.2 k hk
    exact ⟨ad, e, by omega, hc⟩⟩
theorem RowsAt.mono {w : World} {B B' A n xs} (h : RowsAt w B A n xs) (hB : B ≤ B') : RowsAt w B' A n xs :=
  ⟨h.1, h.2.1, fun k hk => by
    obtain ⟨ad, e, hlt, A', n', c', hc, h1, h2, hi⟩ := h.2.2 k hk
    exact ⟨ad, e, by omega, A', n', c', hc, h1, h2, hi.mono hB⟩⟩
theorem bcell {W w1 : World} {B : Nat} (hb : Below B W w1) : (∀ b o, b < B → w1.cell? ⟨b, o, none⟩ = W.cell? ⟨b, o, none⟩) ∧ (∀ b o, b < B → w1.frozen? ⟨b, o, none⟩ = W.frozen? ⟨b, o, none⟩) :=
  ⟨fun b o h => hb.cell (p := ⟨b, o, none⟩) h, fun b o h => hb.frozen (p := ⟨b, o, none⟩) h⟩
theorem IntsAt.addr {w : World} {B A n xs} (h : IntsAt w B A n xs) (hn : 0 < n) : ∃ ad, A = some ad := by
  obtain ⟨ad, e, _⟩ := h.2 0 hn
  exact ⟨ad, e⟩
theorem RowsAt.addr {w : World} {B A n xs} (h : RowsAt w B A n xs) (hn : 0 < n) : ∃ ad, A = some ad := by
  obtain ⟨ad, e, _⟩ := h.2.2 0 hn
  exact ⟨ad, e⟩
theorem IntsAt.at_ {w : World} {B n xs} {ad : Addr} (h : IntsAt w B (some ad) n xs) {k : Nat} (hk : k < n) : ad.block < B ∧ w.cell? (ad.add k) = some (.int .i64 (elOf xs k)) := by
  obtain ⟨ad', e, h1, h2⟩ := h.2 k hk
  injection e with e
  subst e
  exact ⟨h1, h2⟩
theorem RowsAt.row {w : World} {B n xss} {ad : Addr} (h : RowsAt w B (some ad) n xss) {k : Nat} (hk : k < n) :
    ∃ A' n' c', ad.block < B ∧ w.cell? (ad.add k) = some (.slice A' n' c') ∧ n' ≤ c' ∧ c' ≤ maxLen ∧ IntsAt w B A' n' (rowOf xss k) := by
  obtain ⟨ad', e, h1, A', n', c', h2⟩ := h.2.2 k hk
  injection e with e
  subst e
  exact ⟨A', n', c', h1, h2⟩

theorem wp_later {P : Program} {c : Code} {Q : Exit → Act → World → Prop} {a : Act} {w0 : World} (N : Nat) (h : ∀ W, Below N w0 W → w0.heap.size ≤ W.heap.size → c.wp P Q a W) : c.wp P Q a w0 := h w0 (Below.refl _ _) (Nat.le_refl _)
theorem calls_later {P : Program} {f : FuncId} {args : Array Value} {R : Ending → World → Prop} {w0 : World} (N : Nat) (h : ∀ W, Below N w0 W → w0.heap.size ≤ W.heap.size → Calls P f args W R) : Calls P f args w0 R := h w0 (Below.refl _ _) (Nat.le_refl _)
theorem Below.next {N : Nat} {W w w1 : World} (h : Below N W w) (hN : N ≤ W.heap.size) (hb : Below w.heap.size w w1) : Below N W w1 := h.trans (hb.mono (Nat.le_trans hN h.size))
theorem Below.ge {N B : Nat} {W w : World} {X : Prop} (h : Below N W w ∧ X) (hN : N ≤ W.heap.size) (hB : B ≤ N) : B ≤ w.heap.size := Nat.le_trans (Nat.le_trans hB hN) h.1.size
theorem Below.via {B N : Nat} {w0 W w : World} {X : Prop} (h0 : Below B w0 W) (h : Below N W w ∧ X) (hB : B ≤ N) : Below B w0 w := h0.trans (h.1.mono hB)
theorem pcell {W w1 : World} {B : Nat} (hb : Below B W w1) : ∀ p : Addr, p.block < B → w1.cell? p = W.cell? p := fun _ h => hb.cell h
theorem belowN {B : Nat} {a w : World} (h : Below B a w) (n : Nat) : Below B a (w.drewN n) := ⟨h.os, h.tape, h.output, h.size, h.block⟩
theorem blk_lt {w : World} {g : Nat} {o : Obj} (h : w.heap[g]? = some o) : g < w.heap.size := (Array.getElem?_eq_some_iff.1 h).1
theorem undrew {B : Nat} {w w' : World} (h : Below B w.drew w') : Below B w w' := ⟨h.os, h.tape, h.output, h.size, h.block⟩
theorem val_int {k : IntKind} {a b : Int} (h : a = b) : Value.int k a = Value.int k b := by rw [h]
theorem ret_int {k : IntKind} {a b : Int} (h : a = b) : Ending.returned (.int k a) = .returned (.int k b) := by rw [h]
theorem ret_bool {a b : Bool} (h : a = b) : Ending.returned (.bool a) = .returned (.bool b) := by rw [h]
end Go.Dw
