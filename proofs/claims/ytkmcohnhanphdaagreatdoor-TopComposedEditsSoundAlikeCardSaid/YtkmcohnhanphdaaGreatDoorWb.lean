/- What sound.Check and the reference's Check return: chkS. -/
import Derived.Test.YtkmcohnhanphdaaGreatDoorProg
import Derived.Test.YtkmcohnhanphdaaGreatDoorXa
import Derived.Deep.RegionHeld3
import Derived.Deep.QuietTactic
import Derived.BigQuiet
set_option linter.unusedSimpArgs false
set_option linter.unusedVariables false
namespace Go.Proofs.YtkmcohnhanphdaaGreatDoor
open Go.RowKit Go.Dw
set_option maxHeartbeats 400000 in
theorem ISRATE_eq (a : Int) (b : Bool) (hb : Hid (rateB a = b)) (w : World) :
    Calls Tryz.prog 39 #[.int .i64 a] w fun e w' => e = .returned (.bool b) ∧ w = w' := by
  have hb' := hb.out
  clear hb
  by_cases h1 : 1 ≤ a
  · by_cases h2 : a ≤ 1000000
    · go_enter Tryz.func39, Tryz.ntmps39
      go_wp2
      go_ret
      exact ⟨ret_bool (by rw [← hb']; simp [rateB, h1, h2]), rfl⟩
    · go_enter Tryz.func39, Tryz.ntmps39
      go_wp2
      go_ret
      exact ⟨ret_bool (by rw [← hb']; simp [rateB, h1, h2]), rfl⟩
  · go_enter Tryz.func39, Tryz.ntmps39
    go_wp2
    go_ret
    exact ⟨ret_bool (by rw [← hb']; simp [rateB]; omega), rfl⟩
set_option maxHeartbeats 400000 in
theorem ISSAMPLE_eq (a : Int) (b : Bool) (hb : Hid (smpB a = b)) (w : World) :
    Calls Tryz.prog 88 #[.int .i64 a] w fun e w' => e = .returned (.bool b) ∧ w = w' := by
  have hb' := hb.out
  clear hb
  by_cases h1 : -8388608 ≤ a
  · by_cases h2 : a ≤ 8388607
    · go_enter Tryz.func88, Tryz.ntmps88
      go_wp2
      go_ret
      exact ⟨ret_bool (by rw [← hb']; simp [smpB, h1, h2]), rfl⟩
    · go_enter Tryz.func88, Tryz.ntmps88
      go_wp2
      go_ret
      exact ⟨ret_bool (by rw [← hb']; simp [smpB, h1, h2]), rfl⟩
  · go_enter Tryz.func88, Tryz.ntmps88
    go_wp2
    go_ret
    exact ⟨ret_bool (by rw [← hb']; simp [smpB]; omega), rfl⟩
set_option maxHeartbeats 400000 in
theorem LENGTH_any (r : Int) (A : Option Addr) (n c : Nat) (xss : List (List Int)) (w : World) (B : Nat) (hB : B ≤ w.heap.size) (h : RowsAt w B A n xss) (hn : 0 < n) :
    Calls Tryz.prog 45 #[.agg #[.int .i64 r, .slice A n c]] w fun e w' => e = .returned (.int .i64 (len0 xss : Nat)) ∧ Below w.heap.size w w' := by
  obtain ⟨ad, rfl, hlt, A', n', c', hc, h1, h2, hi⟩ := h.2.2 0 hn
  have hl := Lib.hid hi.1
  have hc' : (w.alloc (.cells #[.int .i64 r, .slice (some ad) n c] 33)).cell? ad = some (.slice A' n' c') := by
    rw [World.cell?_alloc_lt _ _ _ (by omega)]; simpa [Addr.add] using hc
  have hn0 : (0 : Int) < (n : Int) := by omega
  clear hi h hc
  go_enter Tryz.func45, Tryz.ntmps45
  go_wp2
  go_ret
  exact ⟨ret_int (by unfold len0; rw [← hl.out]; rfl), (Below.refl _ _).alloc (Nat.le_refl _) _⟩
set_option maxHeartbeats 400000 in
theorem CHECK_none (r : Int) (A : Option Addr) (n c : Nat) (xss : List (List Int)) (hr : Hid (rateB r = false)) (w : World) :
    Calls Tryz.prog 41 #[.agg #[.int .i64 r, .slice A n c]] w fun e w' => e = .returned (.int .i64 (chkS r xss)) ∧ Below w.heap.size w w' := by
  go_enter Tryz.func41, Tryz.ntmps41
  go_wp2_with (go_at_call 39; refine (ISRATE_eq _ _ hr _).mono ?_; rintro e w' ⟨rfl, rfl⟩)
  go_ret
  exact ⟨ret_int (chkS_rate hr.out).symm, (Below.refl _ _).alloc (Nat.le_refl _) _⟩
set_option maxHeartbeats 400000 in
theorem CHECK_zero (r : Int) (A : Option Addr) (c : Nat) (xss : List (List Int)) (hr : Hid (rateB r = true)) (hl : Hid (xss.length = 0)) (w : World) :
    Calls Tryz.prog 41 #[.agg #[.int .i64 r, .slice A 0 c]] w fun e w' => e = .returned (.int .i64 (chkS r xss)) ∧ Below w.heap.size w w' := by
  go_enter Tryz.func41, Tryz.ntmps41
  go_wp2_with (go_at_call 39; refine (ISRATE_eq _ _ hr _).mono ?_; rintro e w' ⟨rfl, rfl⟩)
  go_ret
  exact ⟨ret_int (chkS_none hr.out hl.out).symm, (Below.refl _ _).alloc (Nat.le_refl _) _⟩
set_option maxHeartbeats 400000 in
theorem CHECK_many (r : Int) (A : Option Addr) (n c : Nat) (xss : List (List Int)) (hr : Hid (rateB r = true)) (hl : Hid (xss.length = n)) (hn : 16 < n) (w : World) :
    Calls Tryz.prog 41 #[.agg #[.int .i64 r, .slice A n c]] w fun e w' => e = .returned (.int .i64 (chkS r xss)) ∧ Below w.heap.size w w' := by
  have hq0 : (((n : Int)) == 0) = false := by simp; omega
  have hq16 : (16 : Int) < (n : Int) := by omega
  go_enter Tryz.func41, Tryz.ntmps41
  go_wp2_with (go_at_call 39; refine (ISRATE_eq _ _ hr _).mono ?_; rintro e w' ⟨rfl, rfl⟩)
  go_ret
  exact ⟨ret_int (chkS_big hr.out (by rw [hl.out]; omega) (by rw [hl.out]; exact .inl hn)).symm, (Below.refl _ _).alloc (Nat.le_refl _) _⟩
set_option maxHeartbeats 400000 in
theorem CHECK_long (r : Int) (ad : Addr) (n c : Nat) (xss : List (List Int)) (hr : Hid (rateB r = true)) (hn0 : 0 < n) (hn : n ≤ 16) (hm : 100000 < len0 xss) (w : World) (B : Nat) (hB : B ≤ w.heap.size) (hh : Hid (RowsAt w B (some ad) n xss)) :
    Calls Tryz.prog 41 #[.agg #[.int .i64 r, .slice (some ad) n c]] w fun e w' => e = .returned (.int .i64 (chkS r xss)) ∧ Below w.heap.size w w' := by
  have hl := Lib.hid hh.out.1
  have hq0 : (((n : Int)) == 0) = false := by simp; omega
  have hq16 : ¬ (16 : Int) < (n : Int) := by omega
  have hqm : (100000 : Int) < (len0 xss : Int) := by omega
  go_enter Tryz.func41, Tryz.ntmps41
  go_wp2_with (first
    | (go_at_call 39; refine (ISRATE_eq _ _ hr _).mono ?_; rintro e w' ⟨rfl, rfl⟩)
    | (go_at_call 45; refine (LENGTH_any r (some ad) n c xss _ B (by simp; omega) (hh.out.below ((Below.refl B w).alloc hB _) (Nat.le_refl _)) hn0).mono ?_; rintro e w1 ⟨rfl, hb1⟩; obtain ⟨hc, hf⟩ := bcell hb1))
  go_ret
  exact ⟨ret_int (chkS_big hr.out (by rw [hl.out]; omega) (.inr hm)).symm, ((Below.refl _ _).alloc (Nat.le_refl _) _).trans (hb1.mono (by simp))⟩
set_option maxHeartbeats 800000 in
theorem CHECK_rows (r : Int) (ad : Addr) (n c : Nat) (xss : List (List Int)) (hr : Hid (rateB r = true)) (hn0 : 0 < n) (hn : n ≤ 16) (hm : len0 xss ≤ 100000) (w : World) (B : Nat) (hB : B ≤ w.heap.size) (hh : Hid (RowsAt w B (some ad) n xss)) :
    Calls Tryz.prog 41 #[.agg #[.int .i64 r, .slice (some ad) n c]] w fun e w' => e = .returned (.int .i64 (chkS r xss)) ∧ Below w.heap.size w w' := by
  have hl := Lib.hid hh.out.1
  have hchk : Hid (chkS r xss = chkT (len0 xss) xss) := chkS_rows hr.out (by rw [hl.out]; exact hn0) (by rw [hl.out]; omega) hm
  have hq0 : (((n : Int)) == 0) = false := by simp; omega
  have hq16 : ¬ (16 : Int) < (n : Int) := by omega
  have hqm : ¬ (100000 : Int) < (len0 xss : Int) := by omega
  go_enter Tryz.func41, Tryz.ntmps41
  go_wp2_with (first
    | (go_at_call 39; refine (ISRATE_eq _ _ hr _).mono ?_; rintro e w' ⟨rfl, rfl⟩)
    | (go_at_call 45; refine (LENGTH_any r (some ad) n c xss _ B (by simp; omega) (hh.out.below ((Below.refl B w).alloc hB _) (Nat.le_refl _)) hn0).mono ?_; rintro e w1 ⟨rfl, hb1⟩; obtain ⟨hc, hf⟩ := bcell hb1))
  clear hc hf
  go_loopw [30] (fun i wr => ∃ k : Nat, k ≤ n ∧ i = .int .i64 k ∧ Hid (chkT (len0 xss) (xss.drop k) = chkT (len0 xss) xss) ∧ Below (w.heap.size + 1) (w.alloc (.cells #[.int .i64 r, .slice (some ad) n c] 33)) wr) (fun i _ => n - (intOf i).toNat)
  case atStart => exact ⟨0, Nat.zero_le _, rfl, rfl, by simpa using hb1⟩
  case round =>
    obtain ⟨k, hk, rfl, HC, hb⟩ := hrel
    have hbw : Below B w wr := ((Below.refl B w).alloc hB _).trans (hb.mono (by omega))
    by_cases hlt : k < n
    · obtain ⟨A', n', c', hadB, hcell, hn', hc', hi⟩ := (hh.out.below hbw (Nat.le_refl _)).row hlt
      have hil : Hid ((rowOf xss k).length = n') := hi.1
      have hi' := Lib.hid hi
      obtain ⟨hc, hf⟩ := bcell hb
      unfold maxLen at hc'
      have hsz := hb.size
      simp only [World.size_alloc] at hsz
      have hkx : Hid (k < xss.length) := by show _ < _; have := hl.out; omega
      clear hi
      by_cases hnl : n' = len0 xss
      · subst hnl
        go_wp2_with (go_at_call 45; refine (LENGTH_any r (some ad) n c xss _ B (by omega) (hh.out.below hbw (Nat.le_refl _)) hn0).mono ?_; rintro e w2 ⟨rfl, hb2⟩)
        clear hcell hc hf
        have hbe : Below (w.heap.size + 1) (w.alloc (.cells #[.int .i64 r, .slice (some ad) n c] 33)) w2 := hb.trans (hb2.mono hsz)
        go_loop [41] (fun i => ∃ j : Nat, j ≤ len0 xss ∧ i = .int .i64 j ∧ Hid (((rowOf xss k).take j).all smpB = true)) (fun i => len0 xss - (intOf i).toNat)
        case atStart => exact ⟨0, Nat.zero_le _, rfl, by simp [Hid]⟩
        case round =>
          obtain ⟨j, hj, rfl, HA⟩ := hrel
          by_cases hjl : j < len0 xss
          · obtain ⟨ad', rfl⟩ := hi'.out.addr (by omega)
            obtain ⟨hB', hcell⟩ := (hi'.out.below hb2 (by omega)).at_ hjl
            cases hs : smpB (elOf (rowOf xss k) j) with
            | true =>
              have HS := Lib.hid hs; clear hs
              go_wp2_with (go_at_call 88; refine (ISSAMPLE_eq _ _ HS _).mono ?_; rintro e w' ⟨rfl, rfl⟩)
              go_round
              case rel => exact ⟨j + 1, by omega, by go_num, all_take HA.out (by rw [hil.out]; exact hjl) HS.out⟩
              case measure => simp [intOf]; omega
            | false =>
              have HS := Lib.hid hs; clear hs
              go_wp2_with (go_at_call 88; refine (ISSAMPLE_eq _ _ HS _).mono ?_; rintro e w' ⟨rfl, rfl⟩)
              go_ret
              exact ⟨ret_int (by rw [hchk.out, ← HC.out, chkT_bad hkx.out hil.out (by rw [hil.out]; exact hjl) HS.out]), ((Below.refl _ _).alloc (Nat.le_refl _) _).trans (hbe.mono (by omega))⟩
          · obtain rfl : j = len0 xss := by omega
            go_wp2
            go_roundw
            case rel => exact ⟨k + 1, by omega, by go_num, (chkT_step hkx.out hil.out (by have := HA.out; rwa [List.take_of_length_le (by rw [hil.out]; omega)] at this)).trans HC.out, hbe⟩
            case measure => simp [intOf]; omega
      · have hq : ((n' : Int) != (len0 xss : Int)) = true := by simp; omega
        go_wp2_with (go_at_call 45; refine (LENGTH_any r (some ad) n c xss _ B (by omega) (hh.out.below hbw (Nat.le_refl _)) hn0).mono ?_; rintro e w2 ⟨rfl, hb2⟩)
        go_ret
        exact ⟨ret_int (by rw [hchk.out, ← HC.out, chkT_len hkx.out (by rw [hil.out]; exact hnl)]), ((Below.refl _ _).alloc (Nat.le_refl _) _).trans ((hb.mono (by omega)).trans (hb2.mono (by omega)))⟩
    · obtain rfl : k = n := by omega
      go_wp2
      go_ret
      exact ⟨ret_int (by rw [hchk.out, ← HC.out, ← hl.out, List.drop_length]; rfl), ((Below.refl _ _).alloc (Nat.le_refl _) _).trans (hb.mono (by omega))⟩
theorem CHECK_any (r : Int) (A : Option Addr) (n c : Nat) (xss : List (List Int)) (w : World) (B : Nat) (hB : B ≤ w.heap.size) (h : RowsAt w B A n xss) :
    Calls Tryz.prog 41 #[.agg #[.int .i64 r, .slice A n c]] w fun e w' => e = .returned (.int .i64 (chkS r xss)) ∧ Below w.heap.size w w' := by
  cases hr : rateB r with
  | false => exact CHECK_none r A n c xss hr w
  | true =>
    have hl := h.1
    by_cases hn : n = 0
    · subst hn; exact CHECK_zero r A c xss hr hl w
    · obtain ⟨ad, rfl⟩ := h.addr (by omega)
      by_cases hn16 : 16 < n
      · exact CHECK_many r _ n c xss hr hl hn16 w
      · by_cases hm : 100000 < len0 xss
        · exact CHECK_long r ad n c xss hr (by omega) (by omega) hm w B hB h
        · exact CHECK_rows r ad n c xss hr (by omega) (by omega) (by omega) w B hB h
end Go.Proofs.YtkmcohnhanphdaaGreatDoor
/- How a function ends whose first result is a sound that lies in memory. -/
namespace Go.Proofs.YtkmcohnhanphdaaGreatDoor
open Go.RowKit Go.Dw
theorem two_set (w : World) (g : Nat) (u0 u1 v0 v1 : Value) (h0 : w.cell? ⟨g, 0, none⟩ = some u0) (h1 : w.cell? ⟨g, 1, none⟩ = some u1) :
    ((w.setCell ⟨g, 0, none⟩ v0).setCell ⟨g, 1, none⟩ v1).cell? ⟨g, 0, none⟩ = some v0 ∧ ((w.setCell ⟨g, 0, none⟩ v0).setCell ⟨g, 1, none⟩ v1).cell? ⟨g, 1, none⟩ = some v1 := by
  constructor
  · rw [World.cell?_setCell_other _ _ _ _ (by simp)]
    exact World.cell?_setCell_same w _ _ h0
  · refine World.cell?_setCell_same _ _ _ (u := u1) ?_
    rw [World.cell?_setCell_other _ _ _ _ (by simp)]
    exact h1
theorem load_snd (w : World) (g : Nat) (v0 v1 : Value) (h0 : w.cell? ⟨g, 0, none⟩ = some v0) (h1 : w.cell? ⟨g, 1, none⟩ = some v1) :
    (loadVar 33 ⟨g, 0, none⟩).run Tryz.prog w = .ok (.agg #[v0, v1]) w := by
  simp [loadVar, go_sem, h0, h1]
theorem res_snd3 {fn : Func} {p u x : Tmp} (h : fn.results = #[.cell p 33, .tmp u, .tmp x]) {tmps : Array Value} {w : World} {g : Nat} {v0 v1 : Value} (hp : tmps.getD p undef = .pointer (some ⟨g, 0, none⟩))
    (h0 : w.cell? ⟨g, 0, none⟩ = some v0) (h1 : w.cell? ⟨g, 1, none⟩ = some v1) : (results fn tmps).run Tryz.prog w = .ok (.tuple #[.agg #[v0, v1], tmps.getD u undef, tmps.getD x undef]) w := by
  have hp' : tmps[p]?.getD undef = .pointer (some ⟨g, 0, none⟩) := by simpa using hp
  simp [results, h, hp', asAddr, load_snd w g v0 v1 h0 h1]
section
variable {fn : Func} {R : Ending → World → Prop} {a : Act} {w : World} {p u x : Tmp} {g : Nat} {v0 v1 o0 o1 : Value}
theorem end_snd3 (h : fn.results = #[.cell p 33, .tmp u, .tmp x]) (hp : a.tmps.getD p undef = .pointer (some ⟨g, 0, none⟩)) (hd : a.defers = []) (c0 : w.cell? ⟨g, 0, none⟩ = some o0) (c1 : w.cell? ⟨g, 1, none⟩ = some o1)
    (hR : R (.returned (.tuple #[.agg #[v0, v1], a.tmps.getD u undef, a.tmps.getD x undef])) ((w.setCell ⟨g, 0, none⟩ v0).setCell ⟨g, 1, none⟩ v1)) : bodyPost Tryz.prog fn R .ret a ((w.setCell ⟨g, 0, none⟩ v0).setCell ⟨g, 1, none⟩ v1) :=
  bodyPost_ret (res_snd3 h hp (two_set w g o0 o1 v0 v1 c0 c1).1 (two_set w g o0 o1 v0 v1 c0 c1).2) hd hR
end
theorem set2_below {w w' : World} {B g : Nat} {v0 v1 : Value} (h : Below B w w') (hg : B ≤ g) : Below B w ((w'.setCell ⟨g, 0, none⟩ v0).setCell ⟨g, 1, none⟩ v1) :=
  (h.setCell (p := ⟨g, 0, none⟩) hg v0).setCell (p := ⟨g, 1, none⟩) hg v1
end Go.Proofs.YtkmcohnhanphdaaGreatDoor
/- How a function ends whose first result is a sound that lies in memory, continued: its cells known. -/
namespace Go.Proofs.YtkmcohnhanphdaaGreatDoor
open Go.RowKit Go.Dw
section
variable {fn : Func} {R : Ending → World → Prop} {a : Act} {w : World} {p u x : Tmp} {g : Nat} {v0 v1 : Value}
end
end Go.Proofs.YtkmcohnhanphdaaGreatDoor
/- What the reference's Check returns: chkS. -/
namespace Go.Proofs.YtkmcohnhanphdaaGreatDoor
open Go.RowKit Go.Dw
end Go.Proofs.YtkmcohnhanphdaaGreatDoor
/- Peak on both sides; awake. -/
namespace Go.Proofs.YtkmcohnhanphdaaGreatDoor
open Go.RowKit Go.Dw
end Go.Proofs.YtkmcohnhanphdaaGreatDoor
/- slices.Equal at []int; the law's same. -/
namespace Go.Proofs.YtkmcohnhanphdaaGreatDoor
open Go.RowKit Go.Dw
end Go.Proofs.YtkmcohnhanphdaaGreatDoor
