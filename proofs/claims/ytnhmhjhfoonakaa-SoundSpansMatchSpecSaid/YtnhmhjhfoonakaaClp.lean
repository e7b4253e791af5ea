/- Clips, of the sound: spans behind spans; the sort. -/
import Derived.Test.YtnhmhjhfoonakaaClc
import Derived.Deep.AppendLies
set_option linter.unusedSimpArgs false
set_option linter.unusedVariables false
namespace Go.Proofs.Ytnhmhjhfoonakaa
open Go.RowKit Go.Dw
theorem prsC_one (xs : List Pr) : ∀ u ∈ prsC xs, u.oneCell' = true := by
  intro u hu
  simp only [prsC, List.mem_flatten, List.mem_map] at hu
  obtain ⟨l, ⟨b, _, rfl⟩, h2⟩ := hu
  simp [prC] at h2
  rcases h2 with rfl | rfl <;> rfl
theorem prsC_append (xs ys : List Pr) : prsC (xs ++ ys) = prsC xs ++ prsC ys := by simp [prsC]
theorem PrsAt.reads {w : World} {B : Nat} {A : Option Addr} {m : Nat} {M : List Pr} (h : PrsAt w B A m M) : Reads w B 2 A m (prsC M) := by
  refine ⟨by rw [prsC_length, h.1], fun h0 => ?_⟩
  obtain ⟨b, o, e, hb, _⟩ := h.2 0 h0
  refine ⟨⟨b, o, none⟩, e, hb, fun j u hj => ?_⟩
  have hlt : j < m * 2 := by
    have := (List.getElem?_eq_some_iff.1 hj).1
    rwa [prsC_length, h.1] at this
  obtain ⟨b', o', e', _, h1, h2⟩ := h.2 (j / 2) (by omega)
  rw [e] at e'
  injection e' with e'
  injection e' with e1 e2
  subst e1 e2
  rw [show (⟨b, o, none⟩ : Addr).add j = ⟨b, o + j, none⟩ by unfold Addr.add; split <;> simp_all]
  rcases (show j % 2 = 0 ∨ j % 2 = 1 by omega) with hr | hr
  · have e3 : j = j / 2 * 2 + 0 := by omega
    rw [e3, prsC_get (by rw [h.1]; omega) (by omega)] at hj
    rw [e3, Nat.add_zero, h1]
    exact hj
  · have e3 : j = j / 2 * 2 + 1 := by omega
    rw [e3, prsC_get (by rw [h.1]; omega) (by omega)] at hj
    rw [e3, ← Nat.add_assoc, h2]
    exact hj
theorem wpList_app_span {ops : Array Oper} {rest : List Oper} {o : Oper} {a : Act} {Q : Exit → Act → World → Prop} {w : World} (hgd : o.guard = none) (s x : Operand)
    (ho : o.op = .call { callee := .builtin .append, args := #[s, x], argTypes := #[42, 42] }) (base : Nat) (A0 : Option Addr) (n0 c0 : Nat) (L : List Pr) (hs : a.eval s = .slice A0 n0 c0) (hown : OwnPrs 48 w base (.slice A0 n0 c0) L)
    (B : Nat) (A : Option Addr) (m c : Nat) (M : List Pr) (hx : a.eval x = .slice A m c) (hr : PrsAt w B A m M) (hle : n0 + m ≤ 8796093022207) (hb : base ≤ w.heap.size)
    (h : ∀ A' c' w', OwnPrs 48 w' base (.slice A' (n0 + m) c') (L ++ M) → w.grownBy w' (Value.slice A0 n0 c0).ownBlock → wpList Try.prog ops Q rest (a.put o.dst (.slice A' (n0 + m) c')) w') :
    wpList Try.prog ops Q (o :: rest) a w := by
  obtain ⟨i1, e0, e1, e2, e3⟩ := info_parts span_info
  have hn0 : n0 = L.length := by
    obtain ⟨A', c', e, _, _⟩ := own_form hown
    injection e
  subst hn0
  refine wpList_append_any w hgd s x 42 ho base 48 i1 _ 2 16 Try.underlying42 e0 e1 e2 e3 rfl (by omega) _ L.length (prsC L) hs hown B A m c (prsC M) hx hr.reads (prsC_one M) (by simp only [maxLen]; omega) (by omega) hb ?_
  intro v' w' h1 h2 _
  have h4 : OwnPrs 48 w' base v' (L ++ M) := by unfold OwnPrs; rw [prsC_append, List.length_append, hr.1]; exact h1
  obtain ⟨A', c', rfl, _, _⟩ := h4.len
  have hl : (L ++ M).length = L.length + m := by rw [List.length_append, hr.1]
  rw [hl] at h4 ⊢
  exact h A' c' w' h4 h2
theorem OwnPrs.box {w : World} {base g : Nat} {v : Value} {L : List Pr} {cs : Array Value} {T : TypeId} {fr : Nat × Nat} (h : OwnPrs 48 w base v L) (hg : w.heap[g]? = some (.cells cs T fr)) (hT : 48 ≠ T) {w' : World} (hw : w.grownBy w' v.ownBlock) : w'.heap[g]? = some (.cells cs T fr) :=
  (hw.block g (Array.getElem?_eq_some_iff.1 hg).1 (fun e => own_ne_blk h hg hT e.symm)).trans hg
theorem OwnPrs.grownB {w w' : World} {base : Nat} {v : Value} {L : List Pr} (h : OwnPrs 48 w base v L) (hw : w.grownBy w' v.ownBlock) (hb : base ≤ w.heap.size) : Below base w w' :=
  (Below.refl base w).grown hw hb (fun b e => (own_lt h e).1)
end Go.Proofs.Ytnhmhjhfoonakaa
