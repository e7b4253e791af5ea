/- ClockOutwardCovers, walked. -/
import Derived.Test.YtpfjodggnfgnnaaDoorSet
import Derived.Test.YtpfjodggnfgnnaaDoorZd
import Derived.Test.YtpfjodggnfgnnaaDoorAwk
set_option linter.unusedSimpArgs false
set_option linter.unusedVariables false
namespace Go.Proofs.YtpfjodggnfgnnaaDoor
open Go.RowKit Go.Dw
theorem outS_err {l : List Pr} {f t : Int} (h : (outS l f t).2 ≠ 0) : (outS l f t).1 = [] := by
  unfold outS at h ⊢
  split
  · rfl
  · rename_i h1
    rw [if_neg h1] at h
    split
    · rfl
    · rename_i h2
      rw [if_neg h2] at h
      cases hk : outK l f t l.length with
      | none => rfl
      | some acc => rw [hk] at h; exact absurd rfl h
set_option maxRecDepth 100000 in
set_option maxHeartbeats 4000000 in
theorem lawOc_walk (A : Option Addr) (n c : Nat) (l : List Pr) (frm tr : Int) (w : World) (hh : Hid (PrsAt w w.heap.size A n l)) :
    Calls Tryd.prog 8 #[.slice A n c, .int .i64 frm, .int .i64 tr] w fun e w' => e = .returned (.bool true) ∧ Below w.heap.size w w' := by
  have HE := Lib.hid (outS_err (l := l) (f := frm) (t := tr))
  obtain ⟨⟨a, f⟩, ha⟩ : ∃ p, outS l frm tr = p := ⟨_, rfl⟩
  have HA := Lib.hid ha
  rw [ha] at HE
  clear ha
  go_enter Tryd.func8, Tryd.ntmps8
  go_wp2_with fail
  refine (OUTWARD_any A n c l frm tr _ w.heap.size (Nat.le_refl _) hh).mono ?_
  rw [HA.out]
  rintro e w1 ⟨v1, rfl, ho1, hb1⟩
  have HB1 := Lib.hid hb1
  dsimp only at ho1 ⊢
  obtain ⟨A1, c1, rfl, hc1, hm1⟩ := ho1.len
  have P1 := Lib.hid ho1.at_
  have hs1 := hb1.size
  clear hb1 ho1
  by_cases hf : f = 0
  rotate_left
  · have h0 : a = [] := HE.out hf
    subst h0
    have hq : (f != 0) = true := by simpa using hf
    clear P1
    dsimp only [List.length_nil]
    go_wp2_with (go_at_call 20; refine (AWAKE_any _).mono ?_; rintro e w2 ⟨rfl, hb2⟩)
    go_ret
    exact ⟨rfl, HB1.out.trans (hb2.mono hs1)⟩
  subst hf
  clear HE
  obtain ⟨⟨b, g⟩, hb⟩ : ∃ p, outS a tr frm = p := ⟨_, rfl⟩
  have HBB := Lib.hid hb
  clear hb
  go_wp2_with fail
  refine (OUTWARD_any A1 a.length c1 a tr frm _ w1.heap.size (Nat.le_refl _) P1).mono ?_
  rw [HBB.out]
  rintro e w2 ⟨v2, rfl, ho2, hb2⟩
  have HB2 := Lib.hid (HB1.out.trans (hb2.mono hs1))
  dsimp only at ho2 ⊢
  obtain ⟨A2, c2, rfl, hc2, hm2⟩ := ho2.len
  have P2 := Lib.hid ho2.at_
  have hs2 := HB2.out.size
  clear hb2 ho2
  by_cases hg : g = 0
  rotate_left
  · have hq : (g != 0) = true := by simpa using hg
    go_wp2_with fail
    go_ret
    exact ⟨rfl, HB2.out⟩
  subst hg
  have HW := Lib.hid (law_covers HA.out HBB.out)
  go_wp2_with fail
  refine (CWITHOUT_any A A2 n c b.length c2 l b _ w2.heap.size (Nat.le_refl _) (Lib.hid ((hh.out.below HB2.out (Nat.le_refl _)).mono hs2)) P2).mono ?_
  rw [HW.out]
  rintro e w3 ⟨v3, rfl, ho3, hb3⟩
  have HB3 := Lib.hid (HB2.out.trans (hb3.mono hs2))
  dsimp only at ho3 ⊢
  obtain ⟨A3, c3, rfl, hc3, hm3⟩ := ho3.len
  have hs3 := HB3.out.size
  clear hb3 ho3
  dsimp only [List.length_nil]
  go_wp2_with (go_at_call 20; refine (AWAKE_any _).mono ?_; rintro e w4 ⟨rfl, hb4⟩)
  go_ret
  exact ⟨rfl, HB3.out.trans (hb4.mono hs3)⟩
end Go.Proofs.YtpfjodggnfgnnaaDoor
