/- Rows of whole numbers of the call's own. -/
import Derived.Test.YtpfjodggnfgnnaaDoorSpm
import Derived.Test.YtpfjodggnfgnnaaDoorSpn
set_option linter.unusedSimpArgs false
set_option linter.unusedVariables false
namespace Go.Proofs.YtpfjodggnfgnnaaDoor
open Go.RowKit Go.Dw
theorem one_int_info : (Tryd.prog.info? 3).map (fun i => (i.zero, i.size, i.bytes)) = some (some (.int .i64 0), 1, 8) := by kernel_rfl
/-- a row of whole numbers of the call's own -/
def OwnI (w : World) (base : Nat) (v : Value) (l : List Int) : Prop := w.ownsRow base 3 1 v l.length (l.map (Value.int .i64))
theorem OwnI.below {w w' : World} {base : Nat} {v : Value} {l : List Int} (h : OwnI w base v l) (hb : Below w.heap.size w w') : OwnI w' base v l := own_below h hb
theorem OwnI.nil (w : World) (base : Nat) : OwnI w base (.slice none 0 0) [] := World.ownsRow_nil _ _ _ _
theorem OwnI.len {w : World} {base : Nat} {v : Value} {l : List Int} (h : OwnI w base v l) : ∃ A c, v = .slice A l.length c ∧ l.length ≤ c ∧ c ≤ maxLen := own_form h
theorem OwnI.slot {w : World} {base : Nat} {v : Value} {l : List Int} (h : OwnI w base v l) (h0 : 0 < l.length) : ∃ g cap, v = .slice (some ⟨g, 0, none⟩) l.length cap ∧ base ≤ g ∧ g < w.heap.size ∧ l.length ≤ cap ∧ cap ≤ maxLen ∧
    ∀ k, k < l.length → w.cell? ⟨g, k, none⟩ = some (.int .i64 (intAt l k)) ∧ w.frozen? ⟨g, k, none⟩ = false := by
  have hh : w.ownsRow base 3 1 v l.length (l.map (Value.int .i64)) := h
  rcases hh.2 with ⟨_, h1⟩ | ⟨g, cap, cur, rfl, hb, hhp, h1, h2, _⟩
  · omega
  · refine ⟨g, cap, rfl, hb, (Array.getElem?_eq_some_iff.1 hhp).1, h1, h2, fun k hk => ⟨?_, hh.frozenAt _⟩⟩
    rw [hh.cellAt k (by simpa using hk)]
    simp [intAt, List.getD, List.getElem?_eq_getElem hk]
theorem wpList_push_one {ops : Array Oper} {rest : List Oper} {o : Oper} {a : Act} {Q : Exit → Act → World → Prop} {w0 : World} (hgd : o.guard = none) (s x : Operand)
    (ho : o.op = .call { callee := .builtin .append, args := #[s, x], argTypes := #[49, 49] }) (base : Nat) (A : Option Addr) (n c : Nat) (l : List Int) (u : Int) (g0 : Nat) (hg0 : w0.heap.size = g0)
    (hs : a.eval s = .slice A n c) (hx : a.eval x = .slice (some ⟨g0, 0, none⟩) 1 1) (hown : OwnI w0 base (.slice A n c) l) (hn : n ≤ 5864062014634) (hb : base ≤ w0.heap.size)
    (h : ∀ g cap w', OwnI w' base (.slice (some ⟨g, 0, none⟩) (n + 1) cap) (l ++ [u]) → Below base w0 w' → wpList Tryd.prog ops Q rest (a.put o.dst (.slice (some ⟨g, 0, none⟩) (n + 1) cap)) w') :
    wpList Tryd.prog ops Q (o :: rest) a (w0.alloc (.cells #[.int .i64 u] 3)) := by
  obtain ⟨i1, e0, e1, e2, e3⟩ := info_parts one_int_info
  subst hg0
  have hn' : n = l.length := by
    obtain ⟨A', c', e, _, _⟩ := own_form hown
    injection e
  subst hn'
  refine wpList_append_lies _ hgd s x 49 ho base 3 i1 _ 1 8 Tryd.underlying49 e0 e1 e2 e3 rfl (by omega) (.slice A l.length c) l.length (l.map (Value.int .i64)) hs (World.ownsRow.alloc hown _) ⟨w0.heap.size, 0, none⟩ 1 1 [.int .i64 u] hx rfl (fun j v hj => ?_) (by intro z hz; simp at hz; subst hz; rfl) (by omega) (by simp only [maxLen]; omega) (by omega) (by simp; omega) _ rfl ?_
  · rw [show (⟨w0.heap.size, 0, none⟩ : Addr).add j = ⟨w0.heap.size, j, none⟩ by unfold Addr.add; split <;> simp_all, World.cell?_alloc_new]
    simpa using hj
  · intro g cap w' h1 h2 _ _
    refine h g cap w' ?_ ((((Below.refl base w0).alloc hb _).grown h2 (by simp; omega) (fun b e => (own_lt hown e).1)))
    unfold OwnI
    rw [List.length_append, List.map_append]
    exact h1
theorem wpList_push_two {ops : Array Oper} {rest : List Oper} {o : Oper} {a : Act} {Q : Exit → Act → World → Prop} {w0 : World} (hgd : o.guard = none) (s x : Operand)
    (ho : o.op = .call { callee := .builtin .append, args := #[s, x], argTypes := #[49, 49] }) (base : Nat) (A : Option Addr) (n c : Nat) (l : List Int) (u v : Int) (g0 : Nat) (hg0 : w0.heap.size = g0)
    (hs : a.eval s = .slice A n c) (hx : a.eval x = .slice (some ⟨g0, 0, none⟩) 2 2) (hown : OwnI w0 base (.slice A n c) l) (hn : n ≤ 5864062014634) (hb : base ≤ w0.heap.size)
    (h : ∀ g cap w', OwnI w' base (.slice (some ⟨g, 0, none⟩) (n + 2) cap) (l ++ [u, v]) → Below base w0 w' → wpList Tryd.prog ops Q rest (a.put o.dst (.slice (some ⟨g, 0, none⟩) (n + 2) cap)) w') :
    wpList Tryd.prog ops Q (o :: rest) a (w0.alloc (.cells #[.int .i64 u, .int .i64 v] 3)) := by
  obtain ⟨i1, e0, e1, e2, e3⟩ := info_parts one_int_info
  subst hg0
  have hn' : n = l.length := by
    obtain ⟨A', c', e, _, _⟩ := own_form hown
    injection e
  subst hn'
  refine wpList_append_lies _ hgd s x 49 ho base 3 i1 _ 1 8 Tryd.underlying49 e0 e1 e2 e3 rfl (by omega) (.slice A l.length c) l.length (l.map (Value.int .i64)) hs (World.ownsRow.alloc hown _) ⟨w0.heap.size, 0, none⟩ 2 2 [.int .i64 u, .int .i64 v] hx rfl (fun j v hj => ?_) (by intro z hz; simp at hz; rcases hz with rfl | rfl <;> rfl) (by omega) (by simp only [maxLen]; omega) (by omega) (by simp; omega) _ rfl ?_
  · rw [show (⟨w0.heap.size, 0, none⟩ : Addr).add j = ⟨w0.heap.size, j, none⟩ by unfold Addr.add; split <;> simp_all, World.cell?_alloc_new]
    simpa using hj
  · intro g cap w' h1 h2 _ _
    refine h g cap w' ?_ ((((Below.refl base w0).alloc hb _).grown h2 (by simp; omega) (fun b e => (own_lt hown e).1)))
    unfold OwnI
    rw [List.length_append, List.map_append]
    exact h1
/-- whether a sample is in spans -/
theorem inS_none {l : List Pr} {k : Nat} {x : Int} (hk : k < l.length) (h : inS (l.take k) x = false) (hp : ¬ ((prOf l k).1 ≤ x ∧ x < (prOf l k).2)) : inS (l.take (k + 1)) x = false := by
  rw [take_pr hk, inS_app, h, inS_one, Bool.false_or, Bool.eq_false_iff]
  simpa using hp
set_option maxRecDepth 100000 in
set_option maxHeartbeats 4000000 in
theorem RIN_any (A : Option Addr) (n c : Nat) (l : List Pr) (x : Int) (w : World) (B : Nat) (hn : n ≤ 1000000) (hh : Hid (PrsAt w B A n l)) :
    Calls Tryd.prog 74 #[.slice A n c, .int .i64 x] w fun e w' => e = .returned (.bool (inS l x)) ∧ w = w' := by
  have hl := Lib.hid hh.out.1
  go_enter Tryd.func74, Tryd.ntmps74
  go_wp2
  go_loop [5] (fun i => ∃ k : Nat, k ≤ n ∧ i = .int .i64 k ∧ Hid (inS (l.take k) x = false)) (fun i => n - (intOf i).toNat)
  case atStart => exact ⟨0, Nat.zero_le _, rfl, by show _ = _; rw [List.take_zero]; rfl⟩
  case round =>
    obtain ⟨k, hk, rfl, HN⟩ := hrel
    by_cases hlt : k < n
    · obtain ⟨bA, oA, rfl, hbA, k1, k2⟩ := hh.out.2 k hlt
      have hkl : k < l.length := by rw [hl.out]; exact hlt
      have HIN := Lib.hid (fun h => (inS_iff (l := l) (x := x)).2 ⟨_, pr_in hkl, h⟩)
      have HNO := Lib.hid (fun h => inS_none hkl HN.out h)
      obtain ⟨p, hp⟩ : ∃ p, prOf l k = p := ⟨_, rfl⟩
      rw [hp] at k1 k2 HIN HNO
      obtain ⟨x1, x2⟩ := p
      dsimp only at k1 k2 HIN HNO
      have hk0 : (0 : Int) ≤ (k : Int) := by omega
      have hkn : (k : Int) < (n : Int) := by omega
      clear hp
      by_cases h1 : x1 ≤ x
      · by_cases h2 : x < x2
        · have HV : Hid (inS l x = true) := HIN.out ⟨h1, h2⟩
          go_wp2
          go_ret
          exact ⟨by rw [HV.out]; rfl, rfl⟩
        · have HV := Lib.hid (HNO.out (fun h => h2 h.2))
          go_wp2
          go_round
          case rel => exact ⟨k + 1, by omega, by go_num, HV⟩
          case measure => simp [intOf]; omega
      · have HV := Lib.hid (HNO.out (fun h => h1 h.1))
        go_wp2
        go_round
        case rel => exact ⟨k + 1, by omega, by go_num, HV⟩
        case measure => simp [intOf]; omega
    · obtain rfl : k = n := by omega
      have HV : Hid (inS l x = false) := by
        have h := HN.out
        rw [List.take_of_length_le (by rw [hl.out]; exact Nat.le_refl _)] at h
        exact h
      go_wp2
      go_ret
      exact ⟨by rw [HV.out]; rfl, rfl⟩
set_option maxRecDepth 100000 in
set_option maxHeartbeats 2000000 in
theorem REND_any (A : Option Addr) (n c : Nat) (l : List Pr) (i : Nat) (w : World) (B : Nat) (hn : n ≤ 1000000) (hi : i < 2 * n) (hh : Hid (PrsAt w B A n l)) :
    Calls Tryd.prog 100 #[.slice A n c, .int .i64 i] w fun e w' => e = .returned (.int .i64 (intAt (flatE l) i)) ∧ w = w' := by
  have hl := Lib.hid hh.out.1
  obtain ⟨k, hik⟩ : ∃ k, k = i / 2 := ⟨_, rfl⟩
  have hlt : k < n := by omega
  obtain ⟨bA, oA, rfl, hbA, k1, k2⟩ := hh.out.2 k hlt
  have hkl : k < l.length := by rw [hl.out]; exact hlt
  have hi0 : (0 : Int) ≤ (i : Int) := by omega
  have hk0 : (0 : Int) ≤ (k : Int) := by omega
  have hkn : (k : Int) < (n : Int) := by omega
  have hin : (i : Int) < 2 * (n : Int) := by omega
  rcases Nat.mod_two_eq_zero_or_one i with hm | hm
  · have HV : Hid (intAt (flatE l) i = (prOf l k).1) := by show _ = _; rw [show i = 2 * k by omega]; exact flat_even hkl
    have e1 : ((i : Int) % 2 == 0) = true := by simp; omega
    have e2 : (i : Int) / 2 = (k : Int) := by omega
    clear hm hik hin hlt
    go_enter Tryd.func100, Tryd.ntmps100
    go_wp2
    go_ret
    exact ⟨by rw [HV.out]; rfl, rfl⟩
  · have HV : Hid (intAt (flatE l) i = (prOf l k).2) := by show _ = _; rw [show i = 2 * k + 1 by omega]; exact flat_odd hkl
    have e1 : ((i : Int) % 2 == 0) = false := by simp; omega
    have e2 : (i : Int) / 2 = (k : Int) := by omega
    clear hm hik hin hlt
    go_enter Tryd.func100, Tryd.ntmps100
    go_wp2
    go_ret
    exact ⟨by rw [HV.out]; rfl, rfl⟩
end Go.Proofs.YtpfjodggnfgnnaaDoor
