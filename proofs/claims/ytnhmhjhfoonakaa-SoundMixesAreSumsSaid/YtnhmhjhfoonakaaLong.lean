/- The law's own long: the length of a sound. -/
import Derived.Test.YtnhmhjhfoonakaaWb
set_option linter.unusedSimpArgs false
set_option linter.unusedVariables false
namespace Go.Proofs.Ytnhmhjhfoonakaa
open Go.RowKit Go.Dw
set_option maxHeartbeats 400000 in
theorem LLONG_any (r : Int) (A : Option Addr) (n c : Nat) (xss : List (List Int)) (w : World) (B : Nat) (hB : B ≤ w.heap.size) (h : RowsAt w B A n xss) :
    Calls Try.prog 11 #[.agg #[.int .i64 r, .slice A n c]] w fun e w' => e = .returned (.int .i64 (len0 xss : Nat)) ∧ Below w.heap.size w w' := by
  by_cases hn : n = 0
  · subst hn
    obtain rfl : xss = [] := List.eq_nil_of_length_eq_zero h.1
    clear h
    go_enter Try.func11, Try.ntmps11
    go_wp2
    go_ret
    exact ⟨rfl, (Below.refl _ _).alloc (Nat.le_refl _) _⟩
  · obtain ⟨ad, rfl, hlt, A', n', c', hc, h1, h2, hi⟩ := h.2.2 0 (by omega)
    have hl := Lib.hid hi.1
    have hc' : (w.alloc (.cells #[.int .i64 r, .slice (some ad) n c] 24)).cell? ad = some (.slice A' n' c') := by
      rw [World.cell?_alloc_lt _ _ _ (by omega)]; simpa [Addr.add] using hc
    have hn0 : (0 : Int) < (n : Int) := by omega
    have hq0 : ((n : Int) == 0) = false := by simp; omega
    clear hi h hc hn
    go_enter Try.func11, Try.ntmps11
    go_wp2
    go_ret
    exact ⟨ret_int (by unfold len0; rw [← hl.out]; rfl), (Below.refl _ _).alloc (Nat.le_refl _) _⟩
end Go.Proofs.Ytnhmhjhfoonakaa
