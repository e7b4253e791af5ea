/- Coarser, the sound's, put together; rows of bins compared. -/
import Derived.Test.YtpnbkkpbgpcgiaaCo1
set_option linter.unusedSimpArgs false
set_option linter.unusedVariables false
namespace Go.Proofs.Ytpnbkkpbgpcgiaa
open Go.RowKit Go.Dw
def coS (l : List Bn) (q : Int) : List Bn × Int :=
  if q < 1 ∨ 100000 < q then ([], 1) else if coChk l ≠ 0 then ([], coChk l) else match coK q.toNat l l.length with
    | none => ([], 2)
    | some acc => (acc, 0)
set_option maxHeartbeats 800000 in
theorem COARSER_bad (A : Option Addr) (n c : Nat) (q : Int) (hq : q < 1 ∨ 100000 < q) (w : World) :
    Calls Try.prog 30 #[.slice A n c, .int .i64 q] w fun e w' => e = .returned (.tuple #[.slice none 0 0, .int .i64 1]) ∧ Below w.heap.size w w' := by
  by_cases h1 : q < 1
  · have d1 : decide (q < 1) = true := by simpa using h1
    clear hq h1
    go_enter Try.func30, Try.ntmps30
    go_wp2_with fail
    go_ret2
    exact ⟨rfl, Below.refl _ _⟩
  · have d1 : decide (q < 1) = false := by simpa using h1
    have d2 : decide (100000 < q) = true := by simp; omega
    clear hq h1
    go_enter Try.func30, Try.ntmps30
    go_wp2_with fail
    go_ret2
    exact ⟨rfl, Below.refl _ _⟩
theorem COARSER_any (A : Option Addr) (n c : Nat) (q : Int) (l : List Bn) (hn9 : n ≤ 5864062014634) (hlr : OkL l) (w : World) (B : Nat) (hB : B ≤ w.heap.size) (hc9 : n ≤ c ∧ c ≤ maxLen) (hh : BnsAt w B A n l) :
    Calls Try.prog 30 #[.slice A n c, .int .i64 q] w fun e w' => ∃ v, e = .returned (.tuple #[v, .int .i64 (coS l q).2]) ∧ OwnBns w' w.heap.size v (coS l q).1 ∧ Below w.heap.size w w' := by
  unfold coS
  by_cases hq : q < 1 ∨ 100000 < q
  · rw [if_pos hq]
    exact (COARSER_bad A n c q hq w).mono fun e w' ⟨h1, h2⟩ => ⟨_, h1, World.ownsRow_nil _ _ _ _, h2⟩
  · rw [if_neg hq]
    obtain ⟨q', rfl⟩ := Int.eq_ofNat_of_zero_le (show 0 ≤ q by omega)
    refine (COARSER_ok A n c q' l (by omega) (by omega) hn9 hlr w B hB hc9 hh).mono fun e w' ⟨v, f, res, h1, h2, h3, h4⟩ => ?_
    rw [Int.toNat_natCast]
    rcases h4 with ⟨a1, a2, a3⟩ | ⟨a1, a2, a3, a4⟩ | ⟨a1, a2, a3⟩
    · rw [if_pos a1]; subst a2 a3; exact ⟨v, h1, h2, h3⟩
    · rw [if_neg (by simp [a1]), a2]; subst a3 a4; exact ⟨v, h1, h2, h3⟩
    · rw [if_neg (by simp [a1]), a2]; subst a3; exact ⟨v, h1, h2, h3⟩
set_option maxHeartbeats 1600000 in
theorem EQBINS_same (A A' : Option Addr) (n c c' : Nat) (l : List Bn) (hn9 : n ≤ 5864062014634) (w : World) (B : Nat) (hB : B ≤ w.heap.size) (hcc : n ≤ c ∧ c ≤ maxLen) (hcc' : n ≤ c' ∧ c' ≤ maxLen) (hh : Hid (BnsAt w B A n l)) (hh' : Hid (BnsAt w B A' n l)) :
    Calls Try.prog 32 #[.slice A n c, .slice A' n c'] w fun e w' => e = .returned (.bool true) ∧ Below w.heap.size w w' := by
  obtain ⟨hc1, hc2⟩ := hcc
  obtain ⟨hc3, hc4⟩ := hcc'
  unfold maxLen at hc2 hc4
  have hne : ((n : Int) != (n : Int)) = false := by simp
  go_enter Try.func32, Try.ntmps32
  go_wp2_with fail
  go_loopw [13] (fun i wr => ∃ k : Nat, k ≤ n ∧ i = .int .i64 k ∧ Hid (Below w.heap.size w wr)) (fun i _ => n - (intOf i).toNat)
  case atStart => exact ⟨0, Nat.zero_le _, rfl, Below.refl _ _⟩
  case round =>
    obtain ⟨k, hk, rfl, hS⟩ := hrel
    by_cases hlt : k < n
    · obtain ⟨bA, oA, rfl, hb, k1, k2, k3⟩ := (hh.out.below (hS.out.mono hB) (Nat.le_refl _)).2 k hlt
      obtain ⟨bC, oC, rfl, hb', m1, m2, m3⟩ := (hh'.out.below (hS.out.mono hB) (Nat.le_refl _)).2 k hlt
      obtain ⟨d, hd⟩ : ∃ d, bnOf l k = d := ⟨_, rfl⟩
      rw [hd] at k1 k2 k3 m1 m2 m3
      obtain ⟨x1, x2, x3⟩ := d
      dsimp only at k1 k2 k3 m1 m2 m3
      have hk0 : (0 : Int) ≤ (k : Int) := by omega
      have hkn : (k : Int) < (n : Int) := by omega
      clear hd
      go_wp2_with fail
      go_quiet (fail)
      have HS2 := Lib.hid (belowN hS.out nq)
      go_wp2_with fail
      go_roundw
      case rel => exact ⟨k + 1, by omega, by go_num, HS2⟩
      case measure => simp [intOf]; omega
    · obtain rfl : k = n := by omega
      go_wp2_with fail
      go_ret
      exact ⟨rfl, hS.out⟩
end Go.Proofs.Ytpnbkkpbgpcgiaa
