/- Rows of spans: one more. -/
import Derived.Test.YtpfjodggnfgnnaaDoorSpn
set_option linter.unusedSimpArgs false
set_option linter.unusedVariables false
namespace Go.Proofs.YtpfjodggnfgnnaaDoor
open Go.RowKit Go.Dw
theorem wpList_push_span {ops : Array Oper} {rest : List Oper} {o : Oper} {a : Act} {Q : Exit → Act → World → Prop} {w0 : World} (hgd : o.guard = none) (s x : Operand)
    (ho : o.op = .call { callee := .builtin .append, args := #[s, x], argTypes := #[22, 22] }) (base : Nat) (A : Option Addr) (n c : Nat) (bs : List Pr) (x1 x2 : Int) (g0 : Nat) (hg0 : w0.heap.size = g0)
    (hs : a.eval s = .slice A n c) (hx : a.eval x = .slice (some ⟨g0, 0, none⟩) 1 1) (hown : OwnPrs 29 w0 base (.slice A n c) bs) (hn : n ≤ 5864062014634) (hb : base ≤ w0.heap.size)
    (h : ∀ g cap w', OwnPrs 29 w' base (.slice (some ⟨g, 0, none⟩) (n + 1) cap) (bs ++ [(x1, x2)]) → Below base w0 w' → wpList Tryd.prog ops Q rest (a.put o.dst (.slice (some ⟨g, 0, none⟩) (n + 1) cap)) w') :
    wpList Tryd.prog ops Q (o :: rest) a (w0.alloc (.cells #[.int .i64 x1, .int .i64 x2] 29)) := by
  obtain ⟨i1, e0, e1, e2, e3⟩ := info_parts span_info
  subst hg0
  have hn' : n = bs.length := by
    obtain ⟨A', c', e, _, _⟩ := own_form hown
    injection e
  subst hn'
  refine wpList_append_lies _ hgd s x 22 ho base 29 i1 _ 2 16 Tryd.underlying22 e0 e1 e2 e3 rfl (by omega) (.slice A bs.length c) bs.length (prsC bs) hs (World.ownsRow.alloc hown _) ⟨w0.heap.size, 0, none⟩ 1 1 (prC (x1, x2)) hx rfl (fun j u hj => ?_) (by intro z hz; simp [prC] at hz; rcases hz with rfl | rfl <;> rfl) (by omega) (by simp only [maxLen]; omega) (by omega) (by simp; omega) _ rfl ?_
  · rw [show (⟨w0.heap.size, 0, none⟩ : Addr).add j = ⟨w0.heap.size, j, none⟩ by unfold Addr.add; split <;> simp_all, World.cell?_alloc_new]
    simpa [prC] using hj
  · intro g cap w' h1 h2 _ _
    refine h g cap w' ?_ ((((Below.refl base w0).alloc hb _).grown h2 (by simp; omega) (fun b e => (own_lt hown e).1)))
    unfold OwnPrs
    rw [prsC_snoc, List.length_append]
    exact h1
theorem wp_push_span {o : Oper} {a : Act} {K : Act → World → Prop} {Q : Exit → Act → World → Prop} {w0 : World} (s x : Operand)
    (ho : o.op = .call { callee := .builtin .append, args := #[s, x], argTypes := #[22, 22] }) (base : Nat) (A : Option Addr) (n c : Nat) (bs : List Pr) (x1 x2 : Int) (g0 : Nat) (hg0 : w0.heap.size = g0)
    (hs : a.eval s = .slice A n c) (hx : a.eval x = .slice (some ⟨g0, 0, none⟩) 1 1) (hown : OwnPrs 29 w0 base (.slice A n c) bs) (hn : n ≤ 5864062014634) (hb : base ≤ w0.heap.size)
    (h : ∀ g cap w', OwnPrs 29 w' base (.slice (some ⟨g, 0, none⟩) (n + 1) cap) (bs ++ [(x1, x2)]) → Below base w0 w' → K (a.put o.dst (.slice (some ⟨g, 0, none⟩) (n + 1) cap)) w') :
    o.wp Tryd.prog a (w0.alloc (.cells #[.int .i64 x1, .int .i64 x2] 29)) K Q := by
  obtain ⟨i1, e0, e1, e2, e3⟩ := info_parts span_info
  subst hg0
  have hn' : n = bs.length := by
    obtain ⟨A', c', e, _, _⟩ := own_form hown
    injection e
  subst hn'
  refine wp_append_lies _ s x 22 ho base 29 i1 _ 2 16 Tryd.underlying22 e0 e1 e2 e3 rfl (by omega) (.slice A bs.length c) bs.length (prsC bs) hs (World.ownsRow.alloc hown _) ⟨w0.heap.size, 0, none⟩ 1 1 (prC (x1, x2)) hx rfl (fun j u hj => ?_) (by intro z hz; simp [prC] at hz; rcases hz with rfl | rfl <;> rfl) (by omega) (by simp only [maxLen]; omega) (by omega) (by simp; omega) _ rfl ?_
  · rw [show (⟨w0.heap.size, 0, none⟩ : Addr).add j = ⟨w0.heap.size, j, none⟩ by unfold Addr.add; split <;> simp_all, World.cell?_alloc_new]
    simpa [prC] using hj
  · intro g cap w' h1 h2 _ _
    refine h g cap w' ?_ ((((Below.refl base w0).alloc hb _).grown h2 (by simp; omega) (fun b e => (own_lt hown e).1)))
    unfold OwnPrs
    rw [prsC_snoc, List.length_append]
    exact h1
end Go.Proofs.YtpfjodggnfgnnaaDoor
