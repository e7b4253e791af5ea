/- Bins: rows of structs of three whole numbers; the plain functions of Overview and Coarser. -/
import Derived.Test.YtpnbkkpbgpcgiaaClone
import Derived.Test.YtpnbkkpbgpcgiaaMem2
import Derived.Test.YtpnbkkpbgpcgiaaRCheck
import Derived.Test.YtpnbkkpbgpcgiaaRegion
set_option linter.unusedSimpArgs false
set_option linter.unusedVariables false
namespace Go.Proofs.Ytpnbkkpbgpcgiaa
open Go.RowKit Go.Dw
abbrev Bn := Int × Int × Int
def bnC (b : Bn) : List Value := [.int .i64 b.1, .int .i64 b.2.1, .int .i64 b.2.2]
def bnsC (bs : List Bn) : List Value := (bs.map bnC).flatten
def bnOf (bs : List Bn) (k : Nat) : Bn := bs.getD k (0, 0, 0)
theorem bnsC_length : ∀ (bs : List Bn), (bnsC bs).length = bs.length * 3
  | [] => rfl
  | b :: bs => by
    show (bnC b ++ bnsC bs).length = _
    rw [List.length_append, bnsC_length bs, List.length_cons, Nat.succ_mul]; simp [bnC]; omega
theorem bnsC_snoc (bs : List Bn) (b : Bn) : bnsC (bs ++ [b]) = bnsC bs ++ bnC b := by simp [bnsC]
theorem bnsC_get : ∀ {bs : List Bn} {k j : Nat}, k < bs.length → j < 3 → (bnsC bs)[k * 3 + j]? = (bnC (bnOf bs k))[j]?
  | b :: bs, 0, j, _, hj => by
    show (bnC b ++ bnsC bs)[0 * 3 + j]? = _
    rw [List.getElem?_append_left (by simp [bnC]; omega)]; simp [bnOf]
  | b :: bs, k + 1, j, hk, hj => by
    show (bnC b ++ bnsC bs)[(k + 1) * 3 + j]? = _
    rw [List.getElem?_append_right (by simp [bnC]; omega)]
    have : (k + 1) * 3 + j - (bnC b).length = k * 3 + j := by simp [bnC]; omega
    rw [this, bnsC_get (by simpa using hk) hj]
    simp [bnOf]
theorem bnsC_set : ∀ {bs : List Bn} {k : Nat} {b : Bn}, k < bs.length → (((bnsC bs).set (k * 3) (.int .i64 b.1)).set (k * 3 + 1) (.int .i64 b.2.1)).set (k * 3 + 2) (.int .i64 b.2.2) = bnsC (bs.set k b)
  | c :: bs, 0, b, _ => by simp [bnsC, bnC]
  | c :: bs, k + 1, b, hk => by
    have ih := bnsC_set (bs := bs) (k := k) (b := b) (by simpa using hk)
    have e : bnsC ((c :: bs).set (k + 1) b) = bnC c ++ bnsC (bs.set k b) := by simp [bnsC]
    have e2 : bnsC (c :: bs) = bnC c ++ bnsC bs := by simp [bnsC]
    rw [e, e2, ← ih]
    have hl : (bnC c).length = 3 := rfl
    rw [List.set_append_right _ _ (by omega), List.set_append_right _ _ (by omega), List.set_append_right _ _ (by omega), hl]
    rw [show (k + 1) * 3 - 3 = k * 3 by omega, show (k + 1) * 3 + 1 - 3 = k * 3 + 1 by omega, show (k + 1) * 3 + 2 - 3 = k * 3 + 2 by omega]
/-- a row of bins that lies below block B -/
def BnsAt (w : World) (B : Nat) (A : Option Addr) (n : Nat) (bs : List Bn) : Prop :=
  bs.length = n ∧ ∀ k, k < n → ∃ b o, A = some ⟨b, o, none⟩ ∧ b < B ∧ w.cell? ⟨b, o + k * 3, none⟩ = some (.int .i64 (bnOf bs k).1) ∧ w.cell? ⟨b, o + k * 3 + 1, none⟩ = some (.int .i64 (bnOf bs k).2.1) ∧ w.cell? ⟨b, o + k * 3 + 2, none⟩ = some (.int .i64 (bnOf bs k).2.2)
theorem BnsAt.below {w w' : World} {B B' : Nat} {A : Option Addr} {n : Nat} {bs : List Bn} (h : BnsAt w B A n bs) (hb : Below B' w w') (hB : B ≤ B') : BnsAt w' B A n bs :=
  ⟨h.1, fun k hk => by
    obtain ⟨b, o, e, h1, h2, h3, h4⟩ := h.2 k hk
    exact ⟨b, o, e, h1, (hb.cell (p := ⟨b, o + k * 3, none⟩) (by dsimp only; omega)).trans h2, (hb.cell (p := ⟨b, o + k * 3 + 1, none⟩) (by dsimp only; omega)).trans h3, (hb.cell (p := ⟨b, o + k * 3 + 2, none⟩) (by dsimp only; omega)).trans h4⟩⟩
theorem BnsAt.mono {w : World} {B B' : Nat} {A : Option Addr} {n : Nat} {bs : List Bn} (h : BnsAt w B A n bs) (hB : B ≤ B') : BnsAt w B' A n bs :=
  ⟨h.1, fun k hk => by
    obtain ⟨b, o, e, h1, h2⟩ := h.2 k hk
    exact ⟨b, o, e, by omega, h2⟩⟩
theorem BnsAt.nil (w : World) (B : Nat) (A : Option Addr) : BnsAt w B A 0 [] := ⟨rfl, fun k hk => by omega⟩
def OwnBns (w : World) (base : Nat) (v : Value) (bs : List Bn) : Prop := w.ownsRow base 46 3 v bs.length (bnsC bs)
theorem bin_info : (Try.prog.info? 46).map (fun i => (i.zero, i.size, i.bytes)) = some (some (.agg #[.int .i64 0, .int .i64 0, .int .i64 0]), 3, 24) := by kernel_rfl
def jnB (a b : Bn) : Bn := (min a.1 b.1, max a.2.1 b.2.1, a.2.2 + b.2.2)
theorem ret_bn {x y z x' y' z' : Int} (h1 : x = x') (h2 : y = y') (h3 : z = z') : Ending.returned (Value.agg #[.int .i64 x, .int .i64 y, .int .i64 z]) = Ending.returned (Value.agg #[.int .i64 x', .int .i64 y', .int .i64 z']) := by subst h1 h2 h3; rfl
set_option maxHeartbeats 800000 in
theorem JOINED_any (a b : Bn) (h0 : 0 ≤ a.2.2) (h1 : 0 ≤ b.2.2) (h2 : a.2.2 + b.2.2 ≤ 9223372036854775807) (w : World) :
    Calls Try.prog 71 #[.agg #[.int .i64 a.1, .int .i64 a.2.1, .int .i64 a.2.2], .agg #[.int .i64 b.1, .int .i64 b.2.1, .int .i64 b.2.2]] w fun e w' => e = .returned (.agg #[.int .i64 (jnB a b).1, .int .i64 (jnB a b).2.1, .int .i64 (jnB a b).2.2]) ∧ Below w.heap.size w w' := by
  obtain ⟨a1, a2, a3⟩ := a
  obtain ⟨b1, b2, b3⟩ := b
  dsimp only at h0 h1 h2 ⊢
  have hw : wrap64 (a3 + b3) = a3 + b3 := IntWalk.wrap64_in _ ⟨by omega, by omega⟩
  go_enter Try.func71, Try.ntmps71
  go_wp2_with fail
  all_goals
    refine bodyPost_ret (v := .agg #[.int .i64 _, .int .i64 _, .int .i64 _]) (by simp [results, Try.results71, go_sem]; exact ⟨rfl, rfl, rfl⟩) rfl ⟨ret_bn ?_ ?_ ?_, ((((Below.refl _ w).alloc (Nat.le_refl _) _).alloc (by simp) _).alloc (by simp; omega) _)⟩
  all_goals (unfold jnB; dsimp only; try omega)
theorem wpList_push_bin {ops : Array Oper} {rest : List Oper} {o : Oper} {a : Act} {Q : Exit → Act → World → Prop} {w0 : World} (hgd : o.guard = none) (s x : Operand)
    (ho : o.op = .call { callee := .builtin .append, args := #[s, x], argTypes := #[40, 40] }) (base : Nat) (A : Option Addr) (n c : Nat) (bs : List Bn) (x1 x2 x3 : Int) (g0 : Nat) (hg0 : w0.heap.size = g0)
    (hs : a.eval s = .slice A n c) (hx : a.eval x = .slice (some ⟨g0, 0, none⟩) 1 1) (hown : OwnBns w0 base (.slice A n c) bs) (hn : n ≤ 5864062014634) (hb : base ≤ w0.heap.size)
    (h : ∀ g cap w', OwnBns w' base (.slice (some ⟨g, 0, none⟩) (n + 1) cap) (bs ++ [(x1, x2, x3)]) → Below base w0 w' → wpList Try.prog ops Q rest (a.put o.dst (.slice (some ⟨g, 0, none⟩) (n + 1) cap)) w') :
    wpList Try.prog ops Q (o :: rest) a (w0.alloc (.cells #[.int .i64 x1, .int .i64 x2, .int .i64 x3] 46)) := by
  obtain ⟨i1, e0, e1, e2, e3⟩ := info_parts bin_info
  subst hg0
  have hn' : n = bs.length := by
    obtain ⟨A', c', e, _, _⟩ := own_form hown
    injection e
  subst hn'
  refine wpList_append_lies _ hgd s x 40 ho base 46 i1 _ 3 24 Try.underlying40 e0 e1 e2 e3 rfl (by omega) (.slice A bs.length c) bs.length (bnsC bs) hs (World.ownsRow.alloc hown _) ⟨w0.heap.size, 0, none⟩ 1 1 (bnC (x1, x2, x3)) hx rfl (fun j u hj => ?_) (by intro z hz; simp [bnC] at hz; rcases hz with rfl | rfl | rfl <;> rfl) (by omega) (by simp only [maxLen]; omega) (by omega) (by simp; omega) _ rfl ?_
  · rw [show (⟨w0.heap.size, 0, none⟩ : Addr).add j = ⟨w0.heap.size, j, none⟩ by unfold Addr.add; split <;> simp_all, World.cell?_alloc_new]
    simpa [bnC] using hj
  · intro g cap w' h1 h2 _ _
    refine h g cap w' ?_ ((((Below.refl base w0).alloc hb _).grown h2 (by simp; omega) (fun b e => (own_lt hown e).1)))
    unfold OwnBns
    rw [bnsC_snoc, List.length_append]
    exact h1
/-- one bin of a row of the call's own is written anew -/
theorem OwnBns.set_ {w : World} {base g n cap k : Nat} {bs : List Bn} (h : OwnBns w base (.slice (some ⟨g, 0, none⟩) n cap) bs) (hk : k < bs.length) (b : Bn) :
    OwnBns (((w.setCell ⟨g, k * 3, none⟩ (.int .i64 b.1)).setCell ⟨g, k * 3 + 1, none⟩ (.int .i64 b.2.1)).setCell ⟨g, k * 3 + 2, none⟩ (.int .i64 b.2.2)) base (.slice (some ⟨g, 0, none⟩) n cap) (bs.set k b) := by
  have hn' : n = bs.length := by
    obtain ⟨A', c', e, _, _⟩ := own_form h
    injection e
  subst hn'
  unfold OwnBns at *
  have h1 := ((h.stored (k * 3) (.int .i64 b.1)).1.stored (k * 3 + 1) (.int .i64 b.2.1)).1.stored (k * 3 + 2) (.int .i64 b.2.2)
  rw [bnsC_set hk] at h1
  rw [List.length_set]
  exact h1.1
theorem OwnBns.slot {w : World} {base : Nat} {v : Value} {bs : List Bn} (h : OwnBns w base v bs) (h0 : 0 < bs.length) : ∃ g cap, v = .slice (some ⟨g, 0, none⟩) bs.length cap ∧ base ≤ g ∧ g < w.heap.size ∧ bs.length ≤ cap ∧ cap ≤ maxLen ∧
    ∀ k, k < bs.length → (w.cell? ⟨g, k * 3, none⟩ = some (.int .i64 (bnOf bs k).1) ∧ w.cell? ⟨g, k * 3 + 1, none⟩ = some (.int .i64 (bnOf bs k).2.1) ∧ w.cell? ⟨g, k * 3 + 2, none⟩ = some (.int .i64 (bnOf bs k).2.2)) ∧
      (w.frozen? ⟨g, k * 3, none⟩ = false ∧ w.frozen? ⟨g, k * 3 + 1, none⟩ = false ∧ w.frozen? ⟨g, k * 3 + 2, none⟩ = false) := by
  have hh : w.ownsRow base 46 3 v bs.length (bnsC bs) := h
  rcases hh.2 with ⟨_, h1⟩ | ⟨g, cap, cur, rfl, hb, hhp, h1, h2, _⟩
  · have := bnsC_length bs
    rw [h1] at h0; omega
  · refine ⟨g, cap, rfl, hb, (Array.getElem?_eq_some_iff.1 hhp).1, h1, h2, fun k hk => ⟨⟨?_, ?_, ?_⟩, hh.frozenAt _, hh.frozenAt _, hh.frozenAt _⟩⟩
    · rw [hh.cellAt (k * 3) (by omega)]; have := bnsC_get (j := 0) hk (by omega); simpa [bnC] using this
    · rw [hh.cellAt (k * 3 + 1) (by omega)]; have := bnsC_get (j := 1) hk (by omega); simpa [bnC] using this
    · rw [hh.cellAt (k * 3 + 2) (by omega)]; have := bnsC_get (j := 2) hk (by omega); simpa [bnC] using this
theorem OwnBns.at_ {w : World} {base : Nat} {A : Option Addr} {n c : Nat} {bs : List Bn} (h : OwnBns w base (.slice A n c) bs) : BnsAt w w.heap.size A n bs := by
  obtain ⟨A', c', e, _, _⟩ := own_form h
  injection e with e1 e2 e3
  subst e1 e2 e3
  refine ⟨rfl, fun k hk => ?_⟩
  obtain ⟨g, cap, e, hg, hgl, _, _, hc⟩ := h.slot (by omega)
  injection e with e1 e2 e3
  obtain ⟨⟨c1, c2, c3⟩, -⟩ := hc k hk
  exact ⟨g, 0, e1, hgl, by rw [Nat.zero_add]; exact c1, by rw [Nat.zero_add]; exact c2, by rw [Nat.zero_add]; exact c3⟩
theorem OwnBns.below {w w' : World} {base : Nat} {v : Value} {bs : List Bn} (h : OwnBns w base v bs) (hb : Below w.heap.size w w') : OwnBns w' base v bs := own_below h hb
end Go.Proofs.Ytpnbkkpbgpcgiaa
