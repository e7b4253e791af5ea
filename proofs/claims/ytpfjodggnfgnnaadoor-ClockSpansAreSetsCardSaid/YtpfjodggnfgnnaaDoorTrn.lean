/- Turned, of both sides. -/
import Derived.Test.YtpfjodggnfgnnaaDoorSpn
import Derived.Test.YtpfjodggnfgnnaaDoorPck
set_option linter.unusedSimpArgs false
set_option linter.unusedVariables false
namespace Go.Proofs.YtpfjodggnfgnnaaDoor
open Go.RowKit Go.Dw
def swapP (l : List Pr) : List Pr := l.map fun p => (p.2, p.1)
/-- Turned -/
def turnS (l : List Pr) : List Pr × Int := if chkP l = 0 then (swapP l, 0) else ([], chkP l)
theorem swap_len (l : List Pr) : (swapP l).length = l.length := by simp [swapP]
theorem swap_at {l : List Pr} {k : Nat} (h : k < l.length) : prOf (swapP l) k = ((prOf l k).2, (prOf l k).1) := by
  simp [swapP, prOf, List.getD, List.getElem?_map, List.getElem?_eq_getElem h]
theorem swap_take {l : List Pr} {k : Nat} {x y : Int} (h : k < l.length) (hp : prOf l k = (x, y)) : (swapP l).take (k + 1) = (swapP l).take k ++ [(y, x)] := by
  rw [take_pr (by rw [swap_len]; exact h), swap_at h, hp]
theorem swap_fill {l : List Pr} {n k : Nat} {x y : Int} (hl : l.length = n) (h : k < n) (hp : prOf l k = (x, y)) :
    ((swapP l).take k ++ List.replicate (n - k) (0, 0)).set k (y, x) = (swapP l).take (k + 1) ++ List.replicate (n - (k + 1)) (0, 0) := by
  have e1 : ((swapP l).take k).length = k := by rw [List.length_take, swap_len]; omega
  rw [List.set_append_right _ _ (by omega), e1, Nat.sub_self, show n - k = (n - (k + 1)) + 1 by omega, List.replicate_succ, List.set_cons_zero, swap_take (by omega) hp, List.append_assoc]
  rfl
theorem chkP_ok {l : List Pr} (h : chkP l = 0) : 2 ≤ l.length ∧ l.length ≤ 500 := by
  unfold chkP at h
  by_cases h1 : l.length < 2
  · rw [if_pos h1] at h; exact absurd h (by decide)
  · rw [if_neg h1] at h
    by_cases h2 : 500 < l.length
    · rw [if_pos h2] at h; exact absurd h (by decide)
    · omega
def OutT2 (E : TypeId) (w : World) (z : List Pr × Int) (e : Ending) (w' : World) : Prop := ∃ v, e = .returned (.tuple #[v, .int .i64 z.2]) ∧ OwnPrs E w' w.heap.size v z.1 ∧ Below w.heap.size w w'
end Go.Proofs.YtpfjodggnfgnnaaDoor
