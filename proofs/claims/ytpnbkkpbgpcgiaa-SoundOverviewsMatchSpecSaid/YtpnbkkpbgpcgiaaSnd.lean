/- A sound that lies in a box: what a law's walk keeps of it. -/
import Derived.Test.YtpnbkkpbgpcgiaaEnds
set_option linter.unusedSimpArgs false
set_option linter.unusedVariables false
namespace Go.Proofs.Ytpnbkkpbgpcgiaa
open Go.RowKit Go.Dw
/-- the box g holds rate r and the tracks (A, n, c), that read as xss; all below block N -/
structure SndAt (w : World) (N g : Nat) (r : Int) (A : Option Addr) (n c : Nat) (xss : List (List Int)) : Prop where
  lt : g < N
  c0 : w.cell? ⟨g, 0, none⟩ = some (.int .i64 r)
  c1 : w.cell? ⟨g, 1, none⟩ = some (.slice A n c)
  rows : RowsAt w N A n xss
  f0 : w.frozen? ⟨g, 0, none⟩ = false
  f1 : w.frozen? ⟨g, 1, none⟩ = false
theorem SndAt.below {w w' : World} {N N' g : Nat} {r : Int} {A : Option Addr} {n c : Nat} {xss : List (List Int)} (h : SndAt w N g r A n c xss) (hb : Below N w w') (hN : N ≤ N') : SndAt w' N' g r A n c xss :=
  ⟨Nat.lt_of_lt_of_le h.lt hN, (hb.cell (p := ⟨g, 0, none⟩) h.lt).trans h.c0, (hb.cell (p := ⟨g, 1, none⟩) h.lt).trans h.c1, (h.rows.below hb (Nat.le_refl _)).mono hN, (hb.frozen (p := ⟨g, 0, none⟩) h.lt).trans h.f0, (hb.frozen (p := ⟨g, 1, none⟩) h.lt).trans h.f1⟩
theorem SndAt.fresh {w1 : World} {B : Nat} {r : Int} {A : Option Addr} {n c : Nat} {xss : List (List Int)} (h : OwnRows w1 B (.slice A n c) xss) :
    SndAt (w1.alloc (.cells #[.int .i64 r, .slice A n c] 24)) (w1.heap.size + 1) w1.heap.size r A n c xss :=
  ⟨by omega, by simp [go_sem], by simp [go_sem], (h.rows.below ((Below.refl _ _).alloc (Nat.le_refl _) _) (Nat.le_refl _)).mono (by omega), by simp [go_sem], by simp [go_sem]⟩
theorem SndAt.fresh' {w1 : World} {B : Nat} {r : Int} {A : Option Addr} {n m c : Nat} {xss : List (List Int)} (h : OwnRows w1 B (.slice A m c) xss) (hm : m = n) :
    SndAt (w1.alloc (.cells #[.int .i64 r, .slice A n c] 24)) (w1.heap.size + 1) w1.heap.size r A n c xss := by subst hm; exact SndAt.fresh h
end Go.Proofs.Ytpnbkkpbgpcgiaa
