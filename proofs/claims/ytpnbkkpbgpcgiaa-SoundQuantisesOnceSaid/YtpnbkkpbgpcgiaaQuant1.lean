/- Quantise on the sound's side: the function value that it hands on. -/
import Derived.Test.YtpnbkkpbgpcgiaaEach
import Derived.Test.YtpnbkkpbgpcgiaaNear
import Derived.Test.YtpnbkkpbgpcgiaaSpecC
import Derived.OneCell
set_option linter.unusedSimpArgs false
set_option linter.unusedVariables false
namespace Go.Proofs.Ytpnbkkpbgpcgiaa
open Go.RowKit Go.Dw

def wInc (c : Int) : Int := wrap64 (c + 1)
/-- the captured variables: the step, the top, the count -/
structure QJ (g0 g1 g2 : Nat) (st : Int) (w : World) (s : Int) : Prop where
  step : w.heap[g0]? = some (.cells #[.int .i64 st] 3 (0, 0))
  top : w.heap[g1]? = some (.cells #[.int .i64 (qTop st)] 3 (0, 0))
  count : w.heap[g2]? = some (.cells #[.int .i64 s] 3 (0, 0))
theorem QJ.below {g0 g1 g2 : Nat} {st : Int} {w w' : World} {s : Int} {B : Nat} (h : QJ g0 g1 g2 st w s) (hb : Below B w w') (h0 : g0 < B) (h1 : g1 < B) (h2 : g2 < B) : QJ g0 g1 g2 st w' s :=
  ⟨(hb.block g0 h0).trans h.step, (hb.block g1 h1).trans h.top, (hb.block g2 h2).trans h.count⟩
set_option maxHeartbeats 800000 in
theorem QUANT1_any (x st s : Int) (g0 g1 g2 : Nat) (hx : smpB x = true) (hs1 : 1 ≤ st) (hs2 : st ≤ 8388608) (h02 : g0 ≠ g2) (h12 : g1 ≠ g2) (w : World) (hJ : Hid (QJ g0 g1 g2 st w s)) :
    Calls Try.prog 70 #[.int .i64 x, .pointer (some ⟨g0, 0, none⟩), .pointer (some ⟨g1, 0, none⟩), .pointer (some ⟨g2, 0, none⟩)] w fun e w' =>
      e = .returned (.int .i64 (qV st x)) ∧ QJ g0 g1 g2 st w' (qC wInc st s x) ∧ w.grownBy w' (some g2) := by
  obtain ⟨hx1, hx2⟩ := smpB_yes hx
  obtain ⟨m1, m2, m3, m4⟩ := qM_bd hs1 hs2 hx1 hx2
  have c0 := cell_of_one hJ.out.step
  have c1 := cell_of_one hJ.out.top
  have c2 := cell_of_one hJ.out.count
  have f2 := free_of_one hJ.out.count
  have HM : Hid (wrap64 (nearI x st * st) = qM st x) := IntWalk.wrap64_in _ ⟨by unfold qM at m3; omega, by unfold qM at m4; omega⟩
  have HN := Lib.hid (fun w => NEAR_any x st hs1 (by omega) (by omega) (by omega) w)
  have hsz := Lib.hid (World.block_lt_of_cell? w _ c2)
  by_cases h : qTop st < qM st x
  · have HV : Hid (qV st x = qTop st) := if_pos h
    have HC : Hid (qC wInc st s x = wrap64 (s + 1)) := if_pos h
    go_enter Try.func70, Try.ntmps70
    go_wp2_with fail
    go_quiet ((go_at_call 60; exact Calls.quiet_of ((HN.out _).mono fun e w' h => ⟨h.1, 0, h.2.symm⟩)))
    rw [HM.out]
    go_wp2_with fail
    go_ret
    have hJ2 : QJ g0 g1 g2 st (w.drewN nq) s := hJ.out.below (belowN (Below.refl (w.heap.size + g0 + g1 + g2 + 1) w) nq) (by omega) (by omega) (by omega)
    refine ⟨ret_int HV.out.symm, ⟨?_, ?_, ?_⟩, ?_⟩
    · exact (Below.heap_setCell _ _ _ _ (by simpa using h02)).trans hJ2.step
    · exact (Below.heap_setCell _ _ _ _ (by simpa using h12)).trans hJ2.top
    · rw [HC.out]; exact one_setCell hJ2.count
    · refine ⟨rfl, rfl, rfl, by simp [World.setCell], fun i hi hne => ?_⟩
      exact Below.heap_setCell _ _ _ _ (by simpa using fun e => hne (by rw [e]))
  · have HV : Hid (qV st x = qM st x) := if_neg h
    have HC : Hid (qC wInc st s x = s) := if_neg h
    go_enter Try.func70, Try.ntmps70
    go_wp2_with fail
    go_quiet ((go_at_call 60; exact Calls.quiet_of ((HN.out _).mono fun e w' h => ⟨h.1, 0, h.2.symm⟩)))
    rw [HM.out]
    go_wp2_with fail
    go_ret
    have hJ2 : QJ g0 g1 g2 st (w.drewN nq) s := hJ.out.below (belowN (Below.refl (w.heap.size + g0 + g1 + g2 + 1) w) nq) (by omega) (by omega) (by omega)
    exact ⟨ret_int HV.out.symm, by rw [HC.out]; exact hJ2, grownBy_below (belowN (Below.refl _ _) nq) _⟩
end Go.Proofs.Ytpnbkkpbgpcgiaa
