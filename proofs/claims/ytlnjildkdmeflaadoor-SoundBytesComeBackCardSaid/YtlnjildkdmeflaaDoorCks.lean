/- Rows of chunks of the call's own. -/
import Derived.Test.YtlnjildkdmeflaaDoorSpecQ
import Derived.Test.YtlnjildkdmeflaaDoorPush
set_option linter.unusedSimpArgs false
set_option linter.unusedVariables false
namespace Go.Proofs.YtlnjildkdmeflaaDoor
open Go.RowKit Go.Dw
def ckV (c : Ck) (r : Value) : List Value := [strOf c.1, r]
def cksC (l : List Ck) (rows : List Value) : List Value := (List.zipWith ckV l rows).flatten
theorem cksC_snoc {l : List Ck} {rows : List Value} (h : rows.length = l.length) (c : Ck) (r : Value) : cksC (l ++ [c]) (rows ++ [r]) = cksC l rows ++ ckV c r := by
  unfold cksC
  rw [List.zipWith_append h.symm]
  simp
theorem cksC_get : ∀ {l : List Ck} {rows : List Value} {k : Nat} {r : Value}, k < l.length → rows[k]? = some r → (cksC l rows)[k * 2]? = some (strOf (ckOf l k).1) ∧ (cksC l rows)[k * 2 + 1]? = some r
  | c :: l, r0 :: rows, 0, r, _, h => by
    have e : r0 = r := by simpa using h
    subst e
    exact ⟨rfl, rfl⟩
  | c :: l, r0 :: rows, k + 1, r, hk, h => by
    have ih := cksC_get (l := l) (rows := rows) (k := k) (r := r) (by simpa using hk) (by simpa using h)
    have e : cksC (c :: l) (r0 :: rows) = strOf c.1 :: r0 :: cksC l rows := rfl
    rw [e, show (k + 1) * 2 = k * 2 + 1 + 1 by omega, show k * 2 + 1 + 1 + 1 = (k * 2 + 1) + 1 + 1 by omega]
    simp only [List.getElem?_cons_succ]
    exact ih
  | c :: l, [], k, r, _, h => by simp at h
structure OwnCksL (w : World) (B : Nat) (v : Value) (l : List Ck) (rows : List Value) : Prop where
  outer : w.ownsRow B 42 2 v l.length (cksC l rows)
  len : rows.length = l.length
  inner : ∀ (k : Nat) (r : Value), rows[k]? = some r → OwnBys w B r (ckOf l k).2
def OwnCks (w : World) (B : Nat) (v : Value) (l : List Ck) : Prop := ∃ rows, OwnCksL w B v l rows
theorem OwnCksL.nil (w : World) (B : Nat) : OwnCksL w B (.slice none 0 0) [] [] := ⟨World.ownsRow_nil _ _ _ _, rfl, fun k r h => by simp at h⟩
theorem OwnCks.nil (w : World) (B : Nat) : OwnCks w B (.slice none 0 0) [] := ⟨[], OwnCksL.nil w B⟩
theorem OwnCksL.below {w w' : World} {B : Nat} {v : Value} {l : List Ck} {rows : List Value} (h : OwnCksL w B v l rows) (hb : Below w.heap.size w w') : OwnCksL w' B v l rows :=
  ⟨own_below h.outer hb, h.len, fun k r hr => own_below (h.inner k r hr) hb⟩
theorem OwnCks.below {w w' : World} {B : Nat} {v : Value} {l : List Ck} (h : OwnCks w B v l) (hb : Below w.heap.size w w') : OwnCks w' B v l := h.elim fun rows h => ⟨rows, h.below hb⟩
theorem OwnCks.form {w : World} {B : Nat} {v : Value} {l : List Ck} (h : OwnCks w B v l) : ∃ A c, v = .slice A l.length c ∧ l.length ≤ c ∧ c ≤ maxLen := h.elim fun rows h => own_form h.outer
theorem OwnCks.at_ {w : World} {B : Nat} {A : Option Addr} {n c : Nat} {l : List Ck} (h : OwnCks w B (.slice A n c) l) : CksAt w w.heap.size A n l := by
  obtain ⟨rows, h⟩ := h
  obtain ⟨A', c', e, _, _⟩ := own_form h.outer
  injection e with e1 e2 e3
  subst e1 e2 e3
  refine ⟨rfl, fun k hk => ?_⟩
  have hh := h.outer
  rcases hh.2 with ⟨_, h1⟩ | ⟨g, cap, cur, e, hb, hhp, h1, h2, _⟩
  · omega
  · injection e with e1 e2 e3
    subst e1
    have hr : rows[k]? = some (rows[k]'(by rw [h.len]; exact hk)) := List.getElem?_eq_getElem _
    obtain ⟨g1, g2⟩ := cksC_get hk hr
    have hi := h.inner k _ hr
    obtain ⟨A5, c5, e5, h3, h4⟩ := hi.form
    rw [e5] at g2 hi
    refine ⟨g, 0, rfl, (Array.getElem?_eq_some_iff.1 hhp).1, ?_, A5, c5, ?_, h3, h4, hi.at_⟩
    · rw [Nat.zero_add, hh.cellAt (k * 2) (by omega)]; exact g1
    · rw [Nat.zero_add, hh.cellAt (k * 2 + 1) (by omega)]; exact g2
theorem OwnCksL.push {w0 w w' : World} {B : Nat} {v v' r : Value} {l : List Ck} {c : Ck} {rows : List Value} (h : OwnCksL w0 B v l rows) (hb : Below w0.heap.size w0 w) (hB : B ≤ w0.heap.size)
    (hr : OwnBys w w0.heap.size r c.2) (hv : w'.ownsRow B 42 2 v' (l.length + 1) (cksC l rows ++ ckV c r)) (hg : w.grownBy w' v.ownBlock) : OwnCksL w' B v' (l ++ [c]) (rows ++ [r]) := by
  have hw := h.below hb
  have hold : ∀ k, k < l.length → ckOf (l ++ [c]) k = ckOf l k := fun k hk => by simp [ckOf, List.getD, List.getElem?_append_left hk]
  have hlast : ckOf (l ++ [c]) l.length = c := by simp [ckOf, List.getD]
  refine ⟨by rw [cksC_snoc h.len, List.length_append]; exact hv, by simp [h.len], fun k q hq => ?_⟩
  by_cases hk : k < rows.length
  · rw [List.getElem?_append_left hk] at hq
    rw [hold k (by rw [← h.len]; exact hk)]
    have hi := hw.inner k q hq
    exact World.ownsRow.kept hi hg (own_ne hi hw.outer (by decide))
  · have hlt := (List.getElem?_eq_some_iff.1 hq).1
    simp only [List.length_append, List.length_singleton] at hlt
    obtain rfl : k = rows.length := by omega
    rw [List.getElem?_append_right (Nat.le_refl _)] at hq
    simp only [Nat.sub_self, List.getElem?_cons_zero, Option.some.injEq] at hq
    subst hq
    rw [h.len, hlast]
    have hi : OwnBys w B r c.2 := own_base hr hB
    exact World.ownsRow.kept hi hg (own_ne hi hw.outer (by decide))
theorem ck_info : (Tryd.prog.info? 42).map (fun i => (i.zero, i.size, i.bytes)) = some (some (.agg #[.string ⟨#[]⟩, .slice none 0 0]), 2, 40) := by kernel_rfl
theorem wpList_push_ck {ops : Array Oper} {rest : List Oper} {o : Oper} {a : Act} {Q : Exit → Act → World → Prop} {w0 : World} (hgd : o.guard = none) (s x : Operand)
    (ho : o.op = .call { callee := .builtin .append, args := #[s, x], argTypes := #[44, 44] }) (base : Nat) (A : Option Addr) (n c : Nat) (cs : List Value) (z r : Value) (hz : z.oneCell' = true) (hr : r.oneCell' = true) (g0 : Nat) (hg0 : w0.heap.size = g0)
    (hs : a.eval s = .slice A n c) (hx : a.eval x = .slice (some ⟨g0, 0, none⟩) 1 1) (hown : w0.ownsRow base 42 2 (.slice A n c) n cs) (hn : n ≤ 1000) (hb : base ≤ w0.heap.size)
    (h : ∀ g cap w', w'.ownsRow base 42 2 (.slice (some ⟨g, 0, none⟩) (n + 1) cap) (n + 1) (cs ++ [z, r]) → (w0.alloc (.cells #[z, r] 42)).grownBy w' (Value.slice A n c).ownBlock → wpList Tryd.prog ops Q rest (a.put o.dst (.slice (some ⟨g, 0, none⟩) (n + 1) cap)) w') :
    wpList Tryd.prog ops Q (o :: rest) a (w0.alloc (.cells #[z, r] 42)) := by
  obtain ⟨i1, e0, e1, e2, e3⟩ := info_parts ck_info
  subst hg0
  refine wpList_append_lies _ hgd s x 44 ho base 42 i1 _ 2 40 Tryd.underlying44 e0 e1 e2 e3 rfl (by omega) (.slice A n c) n cs hs (World.ownsRow.alloc hown _) ⟨w0.heap.size, 0, none⟩ 1 1 [z, r] hx rfl (fun j u hj => ?_) (by intro u hu; simp at hu; rcases hu with rfl | rfl <;> assumption) (by omega) (by simp only [maxLen]; omega) (by omega) (by simp; omega) _ rfl ?_
  · rw [show (⟨w0.heap.size, 0, none⟩ : Addr).add j = ⟨w0.heap.size, j, none⟩ by unfold Addr.add; split <;> simp_all, World.cell?_alloc_new]
    simpa using hj
  · intro g cap w' h1 h2 _ _
    exact h g cap w' h1 h2
theorem OwnCksL.kept_int {w w' : World} {B B' : Nat} {v u : Value} {l : List Ck} {rows : List Value} {n : Nat} {xs : List Value} (h : OwnCksL w B v l rows) (hp : w.ownsRow B' 3 1 u n xs) (hg : w.grownBy w' u.ownBlock) : OwnCksL w' B v l rows :=
  ⟨h.outer.kept hg (own_ne h.outer hp (by decide)), h.len, fun k r hr => World.ownsRow.kept (h.inner k r hr) hg (own_ne (h.inner k r hr) hp (by decide))⟩
theorem wpList_push_int2 {ops : Array Oper} {rest : List Oper} {o : Oper} {a : Act} {Q : Exit → Act → World → Prop} {w0 : World} (hgd : o.guard = none) (s x : Operand)
    (ho : o.op = .call { callee := .builtin .append, args := #[s, x], argTypes := #[40, 40] }) (base : Nat) (A : Option Addr) (n c : Nat) (xs : List Value) (u : Int) (g0 : Nat) (hg0 : w0.heap.size = g0)
    (hs : a.eval s = .slice A n c) (hx : a.eval x = .slice (some ⟨g0, 0, none⟩) 1 1) (hown : w0.ownsRow base 3 1 (.slice A n c) n xs) (hn : n ≤ 1000000000) (hb : base ≤ w0.heap.size)
    (h : ∀ g cap w', w'.ownsRow base 3 1 (.slice (some ⟨g, 0, none⟩) (n + 1) cap) (n + 1) (xs ++ [.int .i64 u]) → (w0.alloc (.cells #[.int .i64 u] 3)).grownBy w' (Value.slice A n c).ownBlock → wpList Tryd.prog ops Q rest (a.put o.dst (.slice (some ⟨g, 0, none⟩) (n + 1) cap)) w') :
    wpList Tryd.prog ops Q (o :: rest) a (w0.alloc (.cells #[.int .i64 u] 3)) := by
  obtain ⟨i1, e0, e1, e2, e3⟩ := info_parts sint_info
  subst hg0
  refine wpList_append_lies _ hgd s x 40 ho base 3 i1 _ 1 8 Tryd.underlying40 e0 e1 e2 e3 rfl (by omega) (.slice A n c) n xs hs (hown.alloc _) ⟨w0.heap.size, 0, none⟩ 1 1 [.int .i64 u] hx rfl (cell_one_new _ _ _) (by intro z hz; simp at hz; subst hz; rfl) (by omega) (by simp only [maxLen]; omega) (by omega) (by simp; omega) _ rfl ?_
  intro g cap w' h1 h2 _ _
  exact h g cap w' h1 h2
end Go.Proofs.YtlnjildkdmeflaaDoor
