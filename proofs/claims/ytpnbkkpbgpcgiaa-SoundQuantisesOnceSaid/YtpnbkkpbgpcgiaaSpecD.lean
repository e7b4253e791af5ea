/- The plain functions of chapter 2, continued: Quantise twice. No program in sight. -/
import Derived.Test.YtpnbkkpbgpcgiaaSpecC
set_option linter.unusedSimpArgs false
set_option linter.unusedVariables false
namespace Go.Dw
theorem qV_again {a m x : Int} (h1 : 1 ≤ a) (h2 : a ≤ m) (h3 : m ≤ 24) : qV (qStep m) (qV (qStep a) x) = qV (qStep a) x ∧ ∀ inc c, qC inc (qStep m) c (qV (qStep a) x) = c :=
  qV_once (qStep_bd (by omega) h3).1 (qStep_le h1 h2 h3) qV_top (qStep_bd h1 (by omega)).1
theorem quS_once {inc : Int → Int} {r : Int} {xss : List (List Int)} {b m : Int} (hok : OkS r xss) (h1 : 1 ≤ b) (h2 : b ≤ m) (h3 : m ≤ 24) :
    quS inc r (xss.map (List.map (qV (qStep b)))) m = (r, xss.map (List.map (qV (qStep b))), 0, 0) := by
  have hk := (hok.mapped (f := qV (qStep b)) (fun x hx1 _ => by have := qV_smp (b := b) (x := x) h1 (by omega) hx1; exact smpB_mk this.1 this.2)).1
  unfold quS
  rw [if_neg (by simp [chkS_mk hk]), if_neg (by omega), stS_map (fun s x => (qV_again h1 h2 h3).2 inc s)]
  congr 2
  rw [List.map_map]
  congr 1
  funext xs
  simp only [Function.comp, List.map_map]
  congr 1
  funext x
  exact (qV_again h1 h2 h3).1
theorem quS_ok {inc : Int → Int} {r : Int} {xss : List (List Int)} {b : Int} (hok : OkS r xss) (h1 : 1 ≤ b) (h2 : b ≤ 24) : quS inc r xss b = (r, xss.map (List.map (qV (qStep b))), stS (qC inc (qStep b)) 0 xss, 0) := by
  unfold quS
  rw [if_neg (by simp [chkS_mk hok]), if_neg (by omega)]
theorem quS_no {inc : Int → Int} {r : Int} {xss : List (List Int)} {b : Int} (h : chkS r xss ≠ 0 ∨ b < 1 ∨ 24 < b) : ∃ f, f ≠ 0 ∧ quS inc r xss b = (0, [], 0, f) := by
  unfold quS
  by_cases hc : chkS r xss = 0
  · exact ⟨1, by omega, by rw [if_neg (by simp [hc]), if_pos (by omega)]⟩
  · exact ⟨_, hc, if_pos hc⟩
end Go.Dw
