/- checkRows. -/
import Derived.Test.YtdoffngamppkkaaDoorMom
set_option linter.unusedSimpArgs false
set_option linter.unusedVariables false
namespace Go.Proofs.YtdoffngamppkkaaDoor
open Go.RowKit Go.Dw
/-- a row of values that lies below block B -/
def VsAt (w : World) (B : Nat) (A : Option Addr) (n : Nat) (f : Nat → Value) : Prop :=
  ∀ k, k < n → ∃ b o, A = some ⟨b, o, none⟩ ∧ b < B ∧ w.cell? ⟨b, o + k, none⟩ = some (f k)
theorem VsAt.below {w w' : World} {B B' : Nat} {A : Option Addr} {n : Nat} {f : Nat → Value} (h : VsAt w B A n f) (hb : Below B' w w') (hB : B ≤ B') : VsAt w' B A n f := fun k hk => by
  obtain ⟨b, o, e, h1, h2⟩ := h k hk
  exact ⟨b, o, e, h1, (hb.cell (p := ⟨b, o + k, none⟩) (by dsimp only; omega)).trans h2⟩
def rowF (a : Nat → Int) (r : Nat → Bool) : Nat → Nat → Int
  | 0, _ => 0
  | d + 1, k => if a k < 0 ∨ 1000000000 < a k ∨ r k = false then 1 else if (k = 0 ∧ a k ≠ 0) ∨ (0 < k ∧ a k ≤ a (k - 1)) then 8 else rowF a r d (k + 1)
def chkRow (a : Nat → Int) (r : Nat → Bool) (n : Nat) : Int := if n = 0 then 9 else if 200 < n then 2 else rowF a r n 0
set_option maxRecDepth 100000 in
set_option maxHeartbeats 4000000 in
theorem CHECKROWS_ok (A A' : Option Addr) (n c c' : Nat) (a : Nat → Int) (r : Nat → Bool) (h0 : 0 < n) (h2 : n ≤ 200) (w : World) (hx : Hid (VsAt w w.heap.size A n fun k => .int .i64 (a k))) (hy : Hid (VsAt w w.heap.size A' n fun k => .bool (r k))) :
    Calls Tryd.prog 46 #[.slice A n c, .slice A' n c'] w fun e w' => e = .returned (.int .i64 (rowF a r n 0)) ∧ w = w' := by
  have d1 : ((n : Int) == 0) = false := by simp; omega
  have d2 : decide ((200 : Int) < (n : Int)) = false := by simp; omega
  go_enter Tryd.func46, Tryd.ntmps46
  go_wp2_with fail
  go_loopw [15] (fun i wr => ∃ k : Nat, k ≤ n ∧ i = .int .i64 k ∧ wr = w ∧ Hid (rowF a r n 0 = rowF a r (n - k) k)) (fun i _ => n - (intOf i).toNat)
  case atStart => exact ⟨0, Nat.zero_le _, rfl, rfl, (show _ = _ by rw [Nat.sub_zero])⟩
  case round =>
    obtain ⟨k, hk, rfl, rfl, hR⟩ := hrel
    by_cases hlt : k < n
    · obtain ⟨bA, oA, rfl, hbA, k1⟩ := hx.out k hlt
      obtain ⟨bC, oC, rfl, hbC, m1⟩ := hy.out k hlt
      dsimp only at k1 m1
      have HSTEP : Hid (rowF a r n 0 = if a k < 0 ∨ 1000000000 < a k ∨ r k = false then 1 else if (k = 0 ∧ a k ≠ 0) ∨ (0 < k ∧ a k ≤ a (k - 1)) then 8 else rowF a r (n - (k + 1)) (k + 1)) := by
        show _ = _
        rw [hR.out, show n - k = (n - (k + 1)) + 1 by omega]; rfl
      have hk0 : (0 : Int) ≤ (k : Int) := by omega
      have hkn : (k : Int) < (n : Int) := by omega
      obtain ⟨x, hxx⟩ : ∃ x, a k = x := ⟨_, rfl⟩
      obtain ⟨y, hyy⟩ : ∃ y, r k = y := ⟨_, rfl⟩
      rw [hxx, hyy] at HSTEP
      rw [hxx] at k1
      rw [hyy] at m1
      clear hxx hyy
      by_cases hbad : x < 0 ∨ 1000000000 < x ∨ y = false
      · have HE : Hid (rowF a r n 0 = 1) := by show _ = _; rw [HSTEP.out, if_pos hbad]
        clear HSTEP
        have hb3 : x < 0 ∨ (¬ x < 0 ∧ 1000000000 < x) ∨ (¬ x < 0 ∧ ¬ 1000000000 < x ∧ y = false) := by
          rcases hbad with h | h | h
          · exact .inl h
          · omega
          · by_cases h5 : x < 0
            · exact .inl h5
            · by_cases h6 : 1000000000 < x
              · exact .inr (.inl ⟨h5, h6⟩)
              · exact .inr (.inr ⟨h5, h6, h⟩)
        clear hbad
        rcases hb3 with g1 | ⟨g1, g2⟩ | ⟨g1, g2, g3⟩
        · go_wp2_with fail
          go_ret
          exact ⟨by rw [HE.out]; rfl, rfl⟩
        · go_wp2_with fail
          go_ret
          exact ⟨by rw [HE.out]; rfl, rfl⟩
        · subst g3
          go_wp2_with fail
          go_ret
          exact ⟨by rw [HE.out]; rfl, rfl⟩
      have g1 : ¬ x < 0 := fun h => hbad (.inl h)
      have g2 : ¬ 1000000000 < x := fun h => hbad (.inr (.inl h))
      have g3 : y = true := by cases y with | true => rfl | false => exact absurd (.inr (.inr rfl)) hbad
      subst g3
      rw [if_neg hbad] at HSTEP
      clear hbad
      by_cases hz : k = 0
      · subst hz
        rw [Nat.add_zero] at k1 m1
        by_cases hx0 : x = 0
        · subst hx0
          have HN : Hid (rowF a r n 0 = rowF a r (n - (0 + 1)) (0 + 1)) := by show _ = _; rw [HSTEP.out, if_neg (by rintro (⟨_, h⟩ | ⟨h, _⟩); exact h rfl; omega)]
          clear HSTEP
          go_wp2_with fail
          go_roundw
          case rel => exact ⟨1, by omega, by go_num, trivial, HN⟩
          case measure => simp [intOf]; omega
        · have HE : Hid (rowF a r n 0 = 8) := by show _ = _; rw [HSTEP.out, if_pos (.inl ⟨rfl, hx0⟩)]
          have hne : (x != 0) = true := by simpa using hx0
          clear HSTEP
          go_wp2_with fail
          go_ret
          exact ⟨by rw [HE.out]; rfl, rfl⟩
      · obtain ⟨j, rfl⟩ : ∃ j, k = j + 1 := ⟨k - 1, by omega⟩
        obtain ⟨b5, o5, e5, _, k5⟩ := hx.out j (by omega)
        injection e5 with e5
        injection e5 with e6 e7 _
        subst e6 e7
        dsimp only at k5
        rw [show j + 1 - 1 = j by omega] at HSTEP
        obtain ⟨z, hzz⟩ : ∃ z, a j = z := ⟨_, rfl⟩
        rw [hzz] at HSTEP k5
        have hkz : ((((j + 1 : Nat) : Int)) == 0) = false := by rw [beq_eq_false_iff_ne]; omega
        have hkp : decide ((0 : Int) < ((j + 1 : Nat) : Int)) = true := by rw [decide_eq_true_eq]; omega
        have hjj : ((j + 1 : Nat) : Int) - 1 = (j : Int) := by omega
        have hj0 : (0 : Int) ≤ (j : Int) := by omega
        clear hzz hz
        by_cases hle : x ≤ z
        · have HE : Hid (rowF a r n 0 = 8) := by show _ = _; rw [HSTEP.out, if_pos (.inr ⟨by omega, hle⟩)]
          clear HSTEP
          go_wp2_with fail
          go_ret
          exact ⟨by rw [HE.out]; rfl, rfl⟩
        · have HN : Hid (rowF a r n 0 = rowF a r (n - (j + 1 + 1)) (j + 1 + 1)) := by show _ = _; rw [HSTEP.out, if_neg (by rintro (⟨h, _⟩ | ⟨_, h⟩); omega; exact hle h)]
          clear HSTEP
          go_wp2_with fail
          go_roundw
          case rel => exact ⟨j + 1 + 1, by omega, by go_num, trivial, HN⟩
          case measure => simp [intOf]; omega
    · obtain rfl : k = n := by omega
      go_wp2_with fail
      go_ret
      exact ⟨by rw [hR.out, Nat.sub_self]; rfl, rfl⟩
end Go.Proofs.YtdoffngamppkkaaDoor
