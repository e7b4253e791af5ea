/- Resample on both sides, put together. -/
import Derived.Test.YtpnbkkpbgpcgiaaRes2
import Derived.Test.YtpnbkkpbgpcgiaaRes3
set_option linter.unusedSimpArgs false
set_option linter.unusedVariables false
namespace Go.Proofs.Ytpnbkkpbgpcgiaa
open Go.RowKit Go.Dw

theorem RESAMPLE_any (r : Int) (A : Option Addr) (n c : Nat) (q : Int) (xss : List (List Int)) (w : World) (B : Nat) (hB : B ≤ w.heap.size) (hh : RowsAt w B A n xss) :
    Calls Try.prog 20 #[.agg #[.int .i64 r, .slice A n c], .int .i64 q] w (OutS w (rsS r xss q).1 (rsS r xss q).2.1 (rsS r xss q).2.2) := by
  unfold rsS
  by_cases hc : chkS r xss = 0
  · have hok := chkS_ok hc
    have hn : 0 < n := by have := hok.some; have := hh.1; omega
    rw [if_neg (by simp [hc])]
    cases hr : rateB q with
    | false => rw [if_pos rfl]; exact RESAMPLE_rate r A n c q xss hc hr w B hB hh
    | true =>
      rw [if_neg (by simp)]
      by_cases hl : 100000 < rsN (len0 xss) r q
      · rw [if_pos hl]; exact RESAMPLE_big r A n c q xss hn hok hc hr hl w B hB hh
      · rw [if_neg hl]
        obtain ⟨hr1, hr2⟩ := rateB_yes hok.rate
        obtain ⟨hq1, hq2⟩ := rateB_yes hr
        obtain ⟨m, hm⟩ := Int.eq_ofNat_of_zero_le (rs_bd hok.long hr1 hr2 hq1 hq2).2.2.1
        obtain ⟨ad, rfl⟩ := hh.addr hn
        rw [hm, Int.toNat_natCast]
        exact RESAMPLE_ok r ad n c q m xss hok hc hr hm (by omega) w B hB hh
  · rw [if_pos hc]
    exact RESAMPLE_chk r A n c q xss hc w B hB hh
theorem RRESAMPLE_any (r : Int) (A : Option Addr) (n c : Nat) (q : Int) (xss : List (List Int)) (w : World) (B : Nat) (hB : B ≤ w.heap.size) (hh : RowsAt w B A n xss) :
    Calls Try.prog 25 #[.agg #[.int .i64 r, .slice A n c], .int .i64 q] w (OutS w (rsS r xss q).1 (rsS r xss q).2.1 (rsS r xss q).2.2) := by
  unfold rsS
  by_cases hc : chkS r xss = 0
  · have hok := chkS_ok hc
    have hn : 0 < n := by have := hok.some; have := hh.1; omega
    rw [if_neg (by simp [hc])]
    cases hr : rateB q with
    | false => rw [if_pos rfl]; exact RRESAMPLE_rate r A n c q xss hc hr w B hB hh
    | true =>
      rw [if_neg (by simp)]
      by_cases hl : 100000 < rsN (len0 xss) r q
      · rw [if_pos hl]; exact RRESAMPLE_big r A n c q xss hn hok hc hr hl w B hB hh
      · rw [if_neg hl]
        obtain ⟨hr1, hr2⟩ := rateB_yes hok.rate
        obtain ⟨hq1, hq2⟩ := rateB_yes hr
        obtain ⟨m, hm⟩ := Int.eq_ofNat_of_zero_le (rs_bd hok.long hr1 hr2 hq1 hq2).2.2.1
        obtain ⟨ad, rfl⟩ := hh.addr hn
        rw [hm, Int.toNat_natCast]
        exact RRESAMPLE_ok r ad n c q m xss hok hc hr hm (by omega) w B hB hh
  · rw [if_pos hc]
    exact RRESAMPLE_chk r A n c q xss hc w B hB hh
end Go.Proofs.Ytpnbkkpbgpcgiaa
