/- Rows of spans and of pairs: one more, all zeros, equality. -/
import Derived.Test.YtpfjodggnfgnnaaDoorPr0
import Derived.Deep.DeepCutAuto
import Derived.BigQuiet
set_option linter.unusedSimpArgs false
set_option linter.unusedVariables false
namespace Go.Proofs.YtpfjodggnfgnnaaDoor
open Go.RowKit Go.Dw
theorem span_info : (Tryd.prog.info? 29).map (fun i => (i.zero, i.size, i.bytes)) = some (some (.agg #[.int .i64 0, .int .i64 0]), 2, 16) := by kernel_rfl
theorem pair_info : (Tryd.prog.info? 84).map (fun i => (i.zero, i.size, i.bytes)) = some (some (.agg #[.int .i64 0, .int .i64 0]), 2, 16) := by kernel_rfl
theorem wpList_push_pair {ops : Array Oper} {rest : List Oper} {o : Oper} {a : Act} {Q : Exit → Act → World → Prop} {w0 : World} (hgd : o.guard = none) (s x : Operand)
    (ho : o.op = .call { callee := .builtin .append, args := #[s, x], argTypes := #[41, 41] }) (base : Nat) (A : Option Addr) (n c : Nat) (bs : List Pr) (x1 x2 : Int) (g0 : Nat) (hg0 : w0.heap.size = g0)
    (hs : a.eval s = .slice A n c) (hx : a.eval x = .slice (some ⟨g0, 0, none⟩) 1 1) (hown : OwnPrs 84 w0 base (.slice A n c) bs) (hn : n ≤ 5864062014634) (hb : base ≤ w0.heap.size)
    (h : ∀ g cap w', OwnPrs 84 w' base (.slice (some ⟨g, 0, none⟩) (n + 1) cap) (bs ++ [(x1, x2)]) → Below base w0 w' → wpList Tryd.prog ops Q rest (a.put o.dst (.slice (some ⟨g, 0, none⟩) (n + 1) cap)) w') :
    wpList Tryd.prog ops Q (o :: rest) a (w0.alloc (.cells #[.int .i64 x1, .int .i64 x2] 84)) := by
  obtain ⟨i1, e0, e1, e2, e3⟩ := info_parts pair_info
  subst hg0
  have hn' : n = bs.length := by
    obtain ⟨A', c', e, _, _⟩ := own_form hown
    injection e
  subst hn'
  refine wpList_append_lies _ hgd s x 41 ho base 84 i1 _ 2 16 Tryd.underlying41 e0 e1 e2 e3 rfl (by omega) (.slice A bs.length c) bs.length (prsC bs) hs (World.ownsRow.alloc hown _) ⟨w0.heap.size, 0, none⟩ 1 1 (prC (x1, x2)) hx rfl (fun j u hj => ?_) (by intro z hz; simp [prC] at hz; rcases hz with rfl | rfl <;> rfl) (by omega) (by simp only [maxLen]; omega) (by omega) (by simp; omega) _ rfl ?_
  · rw [show (⟨w0.heap.size, 0, none⟩ : Addr).add j = ⟨w0.heap.size, j, none⟩ by unfold Addr.add; split <;> simp_all, World.cell?_alloc_new]
    simpa [prC] using hj
  · intro g cap w' h1 h2 _ _
    refine h g cap w' ?_ ((((Below.refl base w0).alloc hb _).grown h2 (by simp; omega) (fun b e => (own_lt hown e).1)))
    unfold OwnPrs
    rw [prsC_snoc, List.length_append]
    exact h1
theorem wp_push_pair {o : Oper} {a : Act} {K : Act → World → Prop} {Q : Exit → Act → World → Prop} {w0 : World} (s x : Operand)
    (ho : o.op = .call { callee := .builtin .append, args := #[s, x], argTypes := #[41, 41] }) (base : Nat) (A : Option Addr) (n c : Nat) (bs : List Pr) (x1 x2 : Int) (g0 : Nat) (hg0 : w0.heap.size = g0)
    (hs : a.eval s = .slice A n c) (hx : a.eval x = .slice (some ⟨g0, 0, none⟩) 1 1) (hown : OwnPrs 84 w0 base (.slice A n c) bs) (hn : n ≤ 5864062014634) (hb : base ≤ w0.heap.size)
    (h : ∀ g cap w', OwnPrs 84 w' base (.slice (some ⟨g, 0, none⟩) (n + 1) cap) (bs ++ [(x1, x2)]) → Below base w0 w' → K (a.put o.dst (.slice (some ⟨g, 0, none⟩) (n + 1) cap)) w') :
    o.wp Tryd.prog a (w0.alloc (.cells #[.int .i64 x1, .int .i64 x2] 84)) K Q := by
  obtain ⟨i1, e0, e1, e2, e3⟩ := info_parts pair_info
  subst hg0
  have hn' : n = bs.length := by
    obtain ⟨A', c', e, _, _⟩ := own_form hown
    injection e
  subst hn'
  refine wp_append_lies _ s x 41 ho base 84 i1 _ 2 16 Tryd.underlying41 e0 e1 e2 e3 rfl (by omega) (.slice A bs.length c) bs.length (prsC bs) hs (World.ownsRow.alloc hown _) ⟨w0.heap.size, 0, none⟩ 1 1 (prC (x1, x2)) hx rfl (fun j u hj => ?_) (by intro z hz; simp [prC] at hz; rcases hz with rfl | rfl <;> rfl) (by omega) (by simp only [maxLen]; omega) (by omega) (by simp; omega) _ rfl ?_
  · rw [show (⟨w0.heap.size, 0, none⟩ : Addr).add j = ⟨w0.heap.size, j, none⟩ by unfold Addr.add; split <;> simp_all, World.cell?_alloc_new]
    simpa [prC] using hj
  · intro g cap w' h1 h2 _ _
    refine h g cap w' ?_ ((((Below.refl base w0).alloc hb _).grown h2 (by simp; omega) (fun b e => (own_lt hown e).1)))
    unfold OwnPrs
    rw [prsC_snoc, List.length_append]
    exact h1
theorem madeCells_two (n : Nat) : (madeCells #[Value.int .i64 0, .int .i64 0] (n * 2)).toList = prsC (List.replicate n (0, 0)) := by
  apply List.ext_getElem?
  intro j
  by_cases hj : j < n * 2
  · have h1 : (madeCells #[Value.int .i64 0, .int .i64 0] (n * 2)).toList[j]? = some (.int .i64 0) := by
      have : j % 2 = 0 ∨ j % 2 = 1 := by omega
      rcases this with h | h <;> simp [madeCells, hj, h]
    rw [h1]
    have h2 := prsC_get (bs := List.replicate n ((0 : Int), (0 : Int))) (k := j / 2) (j := j % 2) (by simp; omega) (by omega)
    rw [show j / 2 * 2 + j % 2 = j by omega] at h2
    rw [h2]
    have h3 : prOf (List.replicate n ((0 : Int), (0 : Int))) (j / 2) = (0, 0) := by
      simp [prOf, List.getD, List.getElem?_replicate]; split <;> rfl
    rw [h3]
    have : j % 2 = 0 ∨ j % 2 = 1 := by omega
    rcases this with h | h <;> simp [prC, h]
  · rw [List.getElem?_eq_none (by simp [madeCells]; omega), List.getElem?_eq_none (by rw [prsC_length]; simp; omega)]
theorem mk_pair (n : Nat) (hn : n ≤ 8796093022207) (W : World) : (Instr.makeSlice 41 (.int .i64 (n : Int)) (.int .i64 (n : Int))).run Tryd.prog W = .ok (.slice (some ⟨W.heap.size, 0, none⟩) n n) (W.alloc (.cells (madeCells #[.int .i64 0, .int .i64 0] (n * 2)) 84)) := by
  obtain ⟨i1, e0, e1, e2, e3⟩ := info_parts pair_info
  have h := run_make (P := Tryd.prog) W 41 84 i1 _ Tryd.underlying41 e0 e1 .i64 .i64 n n (by omega) (by omega) (by rw [e3]; omega) (by omega)
  rw [e2, show (Value.agg #[.int .i64 0, .int .i64 0]).cells = #[.int .i64 0, .int .i64 0] from rfl] at h
  simpa using h
theorem own_mk_pair {w : World} {base n : Nat} (hb : base ≤ w.heap.size) (hn : n ≤ maxLen) : OwnPrs 84 (w.alloc (.cells (madeCells #[.int .i64 0, .int .i64 0] (n * 2)) 84)) base (.slice (some ⟨w.heap.size, 0, none⟩) n n) (List.replicate n (0, 0)) := by
  unfold OwnPrs
  have h := World.ownsRow_lit (base := base) (e := 84) (size := 2) w (madeCells #[.int .i64 0, .int .i64 0] (n * 2)) n hb hn (by simp [size_madeCells])
  rw [madeCells_two] at h
  simpa using h
set_option maxRecDepth 100000 in
set_option maxHeartbeats 1000000 in
theorem SPEQUAL_same (A A' : Option Addr) (n c c' : Nat) (l : List Pr) (hn9 : n ≤ 5864062014634) (w : World) (B : Nat) (hB : B ≤ w.heap.size) (hcc : n ≤ c ∧ c ≤ maxLen) (hcc' : n ≤ c' ∧ c' ≤ maxLen) (hh : Hid (PrsAt w B A n l)) (hh' : Hid (PrsAt w B A' n l)) :
    Calls Tryd.prog 13 #[.slice A n c, .slice A' n c'] w fun e w' => e = .returned (.bool true) ∧ Below w.heap.size w w' := by
  obtain ⟨hc1, hc2⟩ := hcc
  obtain ⟨hc3, hc4⟩ := hcc'
  unfold maxLen at hc2 hc4
  have hne : ((n : Int) != (n : Int)) = false := by simp
  go_enter Tryd.func13, Tryd.ntmps13
  go_wp2_with fail
  go_loopw [13] (fun i wr => ∃ k : Nat, k ≤ n ∧ i = .int .i64 k ∧ Hid (Below w.heap.size w wr)) (fun i _ => n - (intOf i).toNat)
  case atStart => exact ⟨0, Nat.zero_le _, rfl, Below.refl _ _⟩
  case round =>
    obtain ⟨k, hk, rfl, hS⟩ := hrel
    by_cases hlt : k < n
    · obtain ⟨bA, oA, rfl, hb, k1, k2⟩ := (hh.out.below (hS.out.mono hB) (Nat.le_refl _)).2 k hlt
      obtain ⟨bC, oC, rfl, hb', m1, m2⟩ := (hh'.out.below (hS.out.mono hB) (Nat.le_refl _)).2 k hlt
      obtain ⟨d, hd⟩ : ∃ d, prOf l k = d := ⟨_, rfl⟩
      rw [hd] at k1 k2 m1 m2
      obtain ⟨x1, x2⟩ := d
      dsimp only at k1 k2 m1 m2
      have hk0 : (0 : Int) ≤ (k : Int) := by omega
      have hkn : (k : Int) < (n : Int) := by omega
      clear hd
      go_wp2_with fail
      go_quiet (fail)
      have HS2 := Lib.hid (belowN hS.out nq)
      go_wp2_with fail
      go_roundw
      case rel => exact ⟨k + 1, by omega, by go_num, HS2⟩
      case measure => simp [intOf]; omega
    · obtain rfl : k = n := by omega
      go_wp2_with fail
      go_ret
      exact ⟨rfl, hS.out⟩
end Go.Proofs.YtpfjodggnfgnnaaDoor
