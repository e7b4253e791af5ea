/- Turned, of both sides. -/
import Derived.Test.YthjmhdnamhifjaaDoorSpn
import Derived.Test.YthjmhdnamhifjaaDoorPck
set_option linter.unusedSimpArgs false
set_option linter.unusedVariables false
namespace Go.Proofs.YthjmhdnamhifjaaDoor
open Go.RowKit Go.Dw
def swapP (l : List Pr) : List Pr := l.map fun p => (p.2, p.1)
/-- Turned -/
def turnS (l : List Pr) : List Pr × Int := if chkP l = 0 then (swapP l, 0) else ([], chkP l)
theorem swap_len (l : List Pr) : (swapP l).length = l.length := by simp [swapP]
theorem swap_at {l : List Pr} {k : Nat} (h : k < l.length) : prOf (swapP l) k = ((prOf l k).2, (prOf l k).1) := by
  simp [swapP, prOf, List.getD, List.getElem?_map, List.getElem?_eq_getElem h]
theorem swap_take {l : List Pr} {k : Nat} {x y : Int} (h : k < l.length) (hp : prOf l k = (x, y)) : (swapP l).take (k + 1) = (swapP l).take k ++ [(y, x)] := by
  rw [take_pr (by rw [swap_len]; exact h), swap_at h, hp]
theorem swap_fill {l : List Pr} {n k : Nat} {x y : Int} (hl : l.length = n) (h : k < n) (hp : prOf l k = (x, y)) :
    ((swapP l).take k ++ List.replicate (n - k) (0, 0)).set k (y, x) = (swapP l).take (k + 1) ++ List.replicate (n - (k + 1)) (0, 0) := by
  have e1 : ((swapP l).take k).length = k := by rw [List.length_take, swap_len]; omega
  rw [List.set_append_right _ _ (by omega), e1, Nat.sub_self, show n - k = (n - (k + 1)) + 1 by omega, List.replicate_succ, List.set_cons_zero, swap_take (by omega) hp, List.append_assoc]
  rfl
theorem chkP_ok {l : List Pr} (h : chkP l = 0) : 2 ≤ l.length ∧ l.length ≤ 500 := by
  unfold chkP at h
  by_cases h1 : l.length < 2
  · rw [if_pos h1] at h; exact absurd h (by decide)
  · rw [if_neg h1] at h
    by_cases h2 : 500 < l.length
    · rw [if_pos h2] at h; exact absurd h (by decide)
    · omega
def OutT2 (E : TypeId) (w : World) (z : List Pr × Int) (e : Ending) (w' : World) : Prop := ∃ v, e = .returned (.tuple #[v, .int .i64 z.2]) ∧ OwnPrs E w' w.heap.size v z.1 ∧ Below w.heap.size w w'
set_option maxRecDepth 100000 in
set_option maxHeartbeats 4000000 in
theorem TURNED_any (A : Option Addr) (n c : Nat) (l : List Pr) (w : World) (B : Nat) (hB : B ≤ w.heap.size) (hh : Hid (PrsAt w B A n l)) :
    Calls Tryd.prog 8 #[.slice A n c] w (OutT2 31 w (turnS l)) := by
  have hl := Lib.hid hh.out.1
  obtain ⟨x, hx⟩ : ∃ x, chkP l = x := ⟨_, rfl⟩
  have HX := Lib.hid hx
  clear hx
  by_cases h0 : x = 0
  · subst h0
    obtain ⟨hn2, hn5⟩ := chkP_ok HX.out
    rw [hl.out] at hn2 hn5
    have HV : Hid (turnS l = (swapP l, 0)) := by show _ = _; unfold turnS; rw [HX.out, if_pos rfl]
    have hmk := mk_pair n (by omega)
    go_enter Tryd.func8, Tryd.ntmps8
    go_wp2_with (go_at_call 6; refine (CHECKPAIRS_any A n c l _ B hB hh).mono ?_; rintro e w1 ⟨rfl, hb1⟩; rw [HX.out])
    have HB1 := Lib.hid hb1
    have hO := own_mk_pair (w := w1) (base := w.heap.size) (n := n) hb1.size (by simp only [maxLen]; omega)
    obtain ⟨W, hW⟩ : ∃ W, W = w1.alloc (.cells (madeCells #[.int .i64 0, .int .i64 0] (n * 2)) 31) := ⟨_, rfl⟩
    obtain ⟨g, hg⟩ : ∃ g, g = w1.heap.size := ⟨_, rfl⟩
    have hBW : Below w.heap.size w W := by rw [hW]; exact hb1.alloc hb1.size _
    rw [← hW, ← hg] at hO ⊢
    have HO := Lib.hid hO
    have HBW := Lib.hid hBW
    have HG : Hid (w.heap.size ≤ g) := by show _ ≤ _; rw [hg]; exact hb1.size
    clear hmk hO hBW hW hg hb1
    go_loopw [18] (fun i wr => ∃ k : Nat, k ≤ n ∧ i = .int .i64 k ∧ Hid (OwnPrs 31 wr w.heap.size (.slice (some ⟨g, 0, none⟩) n n) ((swapP l).take k ++ List.replicate (n - k) (0, 0))) ∧ Hid (Below w.heap.size w wr)) (fun i _ => n - (intOf i).toNat)
    case atStart => exact ⟨0, Nat.zero_le _, rfl, (by show OwnPrs _ _ _ _ _; rw [List.take_zero, List.nil_append, Nat.sub_zero]; exact HO.out), HBW⟩
    case round =>
      obtain ⟨k, hk, rfl, hO, hb⟩ := hrel
      have hsz : w.heap.size ≤ wr.heap.size := hb.out.size
      by_cases hlt : k < n
      · obtain ⟨bA, oA, rfl, hbA, k1, k2⟩ := (hh.out.below (hb.out.mono hB) (Nat.le_refl _)).2 k hlt
        have hbAw : bA < wr.heap.size := by omega
        obtain ⟨p, hp⟩ : ∃ p, prOf l k = p := ⟨_, rfl⟩
        obtain ⟨x, y⟩ := p
        have HFL := Lib.hid (swap_fill hl.out hlt hp)
        rw [hp] at k1 k2
        dsimp only at k1 k2
        have hlen : ((swapP l).take k ++ List.replicate (n - k) ((0 : Int), (0 : Int))).length = n := by rw [List.length_append, List.length_take, swap_len, hl.out, List.length_replicate]; omega
        obtain ⟨acc, hacc⟩ : ∃ acc, (swapP l).take k ++ List.replicate (n - k) ((0 : Int), (0 : Int)) = acc := ⟨_, rfl⟩
        rw [hacc] at hO HFL hlen
        have hO2 := hO.out.below ((Below.refl wr.heap.size wr).alloc (Nat.le_refl _) (.cells #[.int .i64 x, .int .i64 y] 31))
        have HO2 := Lib.hid (hO2.set_ (k := k) (by omega) (y, x))
        rw [HFL.out] at HO2
        obtain ⟨g', cap', hv', hg1, hg2, _, _, hcl⟩ := hO2.slot (by omega)
        injection hv' with e1 _ _
        injection e1 with e1
        injection e1 with e1 _ _
        subst e1
        obtain ⟨⟨s1, s2⟩, f1, f2⟩ := hcl k (by omega)
        have hk0 : (0 : Int) ≤ (k : Int) := by omega
        have hkn : (k : Int) < (n : Int) := by omega
        have HBn : Hid (Below w.heap.size w (((wr.alloc (.cells #[.int .i64 x, .int .i64 y] 31)).setCell ⟨g, k * 2, none⟩ (.int .i64 y)).setCell ⟨g, k * 2 + 1, none⟩ (.int .i64 x))) :=
          ((hb.out.alloc hsz _).setCell (p := ⟨g, k * 2, none⟩) HG.out _).setCell (p := ⟨g, k * 2 + 1, none⟩) HG.out _
        clear hp hacc hcl hO2 hlen
        go_wp2_with fail
        go_roundw
        case rel => exact ⟨k + 1, by omega, by go_num, HO2, HBn⟩
        case measure => simp [intOf]; omega
      · obtain rfl : k = n := by omega
        go_wp2_with fail
        refine bodyPost_ret (v := .tuple #[.slice (some ⟨g, 0, none⟩) k k, .int .i64 0]) (by simp [results, Tryd.results8, go_sem]) rfl ?_
        unfold OutT2
        rw [HV.out]
        refine ⟨_, rfl, ?_, hb.out⟩
        have := hO.out
        rw [Nat.sub_self, List.replicate_zero, List.append_nil, List.take_of_length_le (by rw [swap_len, hl.out]; exact Nat.le_refl _)] at this
        exact this
  · skip
    have hq : ((x : Int) != 0) = true := by simpa using h0
    have HV : Hid (turnS l = ([], x)) := by show _ = _; unfold turnS; rw [HX.out, if_neg h0]
    go_enter Tryd.func8, Tryd.ntmps8
    go_wp2_with (go_at_call 6; refine (CHECKPAIRS_any A n c l _ B hB hh).mono ?_; rintro e w1 ⟨rfl, hb1⟩; rw [HX.out])
    refine bodyPost_ret (v := .tuple #[.slice none 0 0, .int .i64 x]) (by simp [results, Tryd.results8, go_sem]) rfl ?_
    unfold OutT2
    rw [HV.out]
    exact ⟨_, rfl, OwnPrs.nil _ _ _, hb1⟩
end Go.Proofs.YthjmhdnamhifjaaDoor
