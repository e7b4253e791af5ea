/- What sound.Check and the reference's Check return: chkS. -/
import Derived.Test.YtkmcohnhanphdaaGreatDoorProg
import Derived.Test.YtkmcohnhanphdaaGreatDoorBase
import Derived.Test.YtkmcohnhanphdaaGreatDoorMem
import Derived.Deep.RegionHeld3
import Derived.Deep.QuietTactic
import Derived.BigQuiet
set_option linter.unusedSimpArgs false
set_option linter.unusedVariables false
namespace Go.Proofs.YtkmcohnhanphdaaGreatDoor
open Go.RowKit Go.Dw


set_option maxHeartbeats 400000 in
theorem ISRATE_eq (a : Int) (b : Bool) (hb : Hid (rateB a = b)) (w : World) :
    Calls Tryz.prog 39 #[.int .i64 a] w fun e w' => e = .returned (.bool b) ∧ w = w' := by
  have hb' := hb.out
  clear hb
  by_cases h1 : 1 ≤ a
  · by_cases h2 : a ≤ 1000000
    · go_enter Tryz.func39, Tryz.ntmps39
      go_wp2
      go_ret
      exact ⟨ret_bool (by rw [← hb']; simp [rateB, h1, h2]), rfl⟩
    · go_enter Tryz.func39, Tryz.ntmps39
      go_wp2
      go_ret
      exact ⟨ret_bool (by rw [← hb']; simp [rateB, h1, h2]), rfl⟩
  · go_enter Tryz.func39, Tryz.ntmps39
    go_wp2
    go_ret
    exact ⟨ret_bool (by rw [← hb']; simp [rateB]; omega), rfl⟩
set_option maxHeartbeats 400000 in
theorem ISSAMPLE_eq (a : Int) (b : Bool) (hb : Hid (smpB a = b)) (w : World) :
    Calls Tryz.prog 88 #[.int .i64 a] w fun e w' => e = .returned (.bool b) ∧ w = w' := by
  have hb' := hb.out
  clear hb
  by_cases h1 : -8388608 ≤ a
  · by_cases h2 : a ≤ 8388607
    · go_enter Tryz.func88, Tryz.ntmps88
      go_wp2
      go_ret
      exact ⟨ret_bool (by rw [← hb']; simp [smpB, h1, h2]), rfl⟩
    · go_enter Tryz.func88, Tryz.ntmps88
      go_wp2
      go_ret
      exact ⟨ret_bool (by rw [← hb']; simp [smpB, h1, h2]), rfl⟩
  · go_enter Tryz.func88, Tryz.ntmps88
    go_wp2
    go_ret
    exact ⟨ret_bool (by rw [← hb']; simp [smpB]; omega), rfl⟩

set_option maxHeartbeats 400000 in
theorem LENGTH_any (r : Int) (A : Option Addr) (n c : Nat) (xss : List (List Int)) (w : World) (B : Nat) (hB : B ≤ w.heap.size) (h : RowsAt w B A n xss) (hn : 0 < n) :
    Calls Tryz.prog 45 #[.agg #[.int .i64 r, .slice A n c]] w fun e w' => e = .returned (.int .i64 (len0 xss : Nat)) ∧ Below w.heap.size w w' := by
  obtain ⟨ad, rfl, hlt, A', n', c', hc, h1, h2, hi⟩ := h.2.2 0 hn
  have hl := Lib.hid hi.1
  have hc' : (w.alloc (.cells #[.int .i64 r, .slice (some ad) n c] 33)).cell? ad = some (.slice A' n' c') := by
    rw [World.cell?_alloc_lt _ _ _ (by omega)]; simpa [Addr.add] using hc
  have hn0 : (0 : Int) < (n : Int) := by omega
  clear hi h hc
  go_enter Tryz.func45, Tryz.ntmps45
  go_wp2
  go_ret
  exact ⟨ret_int (by unfold len0; rw [← hl.out]; rfl), (Below.refl _ _).alloc (Nat.le_refl _) _⟩
set_option maxHeartbeats 400000 in
theorem CHECK_none (r : Int) (A : Option Addr) (n c : Nat) (xss : List (List Int)) (hr : Hid (rateB r = false)) (w : World) :
    Calls Tryz.prog 41 #[.agg #[.int .i64 r, .slice A n c]] w fun e w' => e = .returned (.int .i64 (chkS r xss)) ∧ Below w.heap.size w w' := by
  go_enter Tryz.func41, Tryz.ntmps41
  go_wp2_with (go_at_call 39; refine (ISRATE_eq _ _ hr _).mono ?_; rintro e w' ⟨rfl, rfl⟩)
  go_ret
  exact ⟨ret_int (chkS_rate hr.out).symm, (Below.refl _ _).alloc (Nat.le_refl _) _⟩

set_option maxHeartbeats 400000 in
theorem CHECK_zero (r : Int) (A : Option Addr) (c : Nat) (xss : List (List Int)) (hr : Hid (rateB r = true)) (hl : Hid (xss.length = 0)) (w : World) :
    Calls Tryz.prog 41 #[.agg #[.int .i64 r, .slice A 0 c]] w fun e w' => e = .returned (.int .i64 (chkS r xss)) ∧ Below w.heap.size w w' := by
  go_enter Tryz.func41, Tryz.ntmps41
  go_wp2_with (go_at_call 39; refine (ISRATE_eq _ _ hr _).mono ?_; rintro e w' ⟨rfl, rfl⟩)
  go_ret
  exact ⟨ret_int (chkS_none hr.out hl.out).symm, (Below.refl _ _).alloc (Nat.le_refl _) _⟩

set_option maxHeartbeats 400000 in
theorem CHECK_many (r : Int) (A : Option Addr) (n c : Nat) (xss : List (List Int)) (hr : Hid (rateB r = true)) (hl : Hid (xss.length = n)) (hn : 16 < n) (w : World) :
    Calls Tryz.prog 41 #[.agg #[.int .i64 r, .slice A n c]] w fun e w' => e = .returned (.int .i64 (chkS r xss)) ∧ Below w.heap.size w w' := by
  have hq0 : (((n : Int)) == 0) = false := by simp; omega
  have hq16 : (16 : Int) < (n : Int) := by omega
  go_enter Tryz.func41, Tryz.ntmps41
  go_wp2_with (go_at_call 39; refine (ISRATE_eq _ _ hr _).mono ?_; rintro e w' ⟨rfl, rfl⟩)
  go_ret
  exact ⟨ret_int (chkS_big hr.out (by rw [hl.out]; omega) (by rw [hl.out]; exact .inl hn)).symm, (Below.refl _ _).alloc (Nat.le_refl _) _⟩

set_option maxHeartbeats 400000 in
theorem CHECK_long (r : Int) (ad : Addr) (n c : Nat) (xss : List (List Int)) (hr : Hid (rateB r = true)) (hn0 : 0 < n) (hn : n ≤ 16) (hm : 100000 < len0 xss) (w : World) (B : Nat) (hB : B ≤ w.heap.size) (hh : Hid (RowsAt w B (some ad) n xss)) :
    Calls Tryz.prog 41 #[.agg #[.int .i64 r, .slice (some ad) n c]] w fun e w' => e = .returned (.int .i64 (chkS r xss)) ∧ Below w.heap.size w w' := by
  have hl := Lib.hid hh.out.1
  have hq0 : (((n : Int)) == 0) = false := by simp; omega
  have hq16 : ¬ (16 : Int) < (n : Int) := by omega
  have hqm : (100000 : Int) < (len0 xss : Int) := by omega
  go_enter Tryz.func41, Tryz.ntmps41
  go_wp2_with (first
    | (go_at_call 39; refine (ISRATE_eq _ _ hr _).mono ?_; rintro e w' ⟨rfl, rfl⟩)
    | (go_at_call 45; refine (LENGTH_any r (some ad) n c xss _ B (by simp; omega) (hh.out.below ((Below.refl B w).alloc hB _) (Nat.le_refl _)) hn0).mono ?_; rintro e w1 ⟨rfl, hb1⟩; obtain ⟨hc, hf⟩ := bcell hb1))
  go_ret
  exact ⟨ret_int (chkS_big hr.out (by rw [hl.out]; omega) (.inr hm)).symm, ((Below.refl _ _).alloc (Nat.le_refl _) _).trans (hb1.mono (by simp))⟩

set_option maxHeartbeats 800000 in
theorem CHECK_rows (r : Int) (ad : Addr) (n c : Nat) (xss : List (List Int)) (hr : Hid (rateB r = true)) (hn0 : 0 < n) (hn : n ≤ 16) (hm : len0 xss ≤ 100000) (w : World) (B : Nat) (hB : B ≤ w.heap.size) (hh : Hid (RowsAt w B (some ad) n xss)) :
    Calls Tryz.prog 41 #[.agg #[.int .i64 r, .slice (some ad) n c]] w fun e w' => e = .returned (.int .i64 (chkS r xss)) ∧ Below w.heap.size w w' := by
  have hl := Lib.hid hh.out.1
  have hchk : Hid (chkS r xss = chkT (len0 xss) xss) := chkS_rows hr.out (by rw [hl.out]; exact hn0) (by rw [hl.out]; omega) hm
  have hq0 : (((n : Int)) == 0) = false := by simp; omega
  have hq16 : ¬ (16 : Int) < (n : Int) := by omega
  have hqm : ¬ (100000 : Int) < (len0 xss : Int) := by omega
  go_enter Tryz.func41, Tryz.ntmps41
  go_wp2_with (first
    | (go_at_call 39; refine (ISRATE_eq _ _ hr _).mono ?_; rintro e w' ⟨rfl, rfl⟩)
    | (go_at_call 45; refine (LENGTH_any r (some ad) n c xss _ B (by simp; omega) (hh.out.below ((Below.refl B w).alloc hB _) (Nat.le_refl _)) hn0).mono ?_; rintro e w1 ⟨rfl, hb1⟩; obtain ⟨hc, hf⟩ := bcell hb1))
  clear hc hf
  go_loopw [30] (fun i wr => ∃ k : Nat, k ≤ n ∧ i = .int .i64 k ∧ Hid (chkT (len0 xss) (xss.drop k) = chkT (len0 xss) xss) ∧ Below (w.heap.size + 1) (w.alloc (.cells #[.int .i64 r, .slice (some ad) n c] 33)) wr) (fun i _ => n - (intOf i).toNat)
  case atStart => exact ⟨0, Nat.zero_le _, rfl, rfl, by simpa using hb1⟩
  case round =>
    obtain ⟨k, hk, rfl, HC, hb⟩ := hrel
    have hbw : Below B w wr := ((Below.refl B w).alloc hB _).trans (hb.mono (by omega))
    by_cases hlt : k < n
    · obtain ⟨A', n', c', hadB, hcell, hn', hc', hi⟩ := (hh.out.below hbw (Nat.le_refl _)).row hlt
      have hil : Hid ((rowOf xss k).length = n') := hi.1
      have hi' := Lib.hid hi
      obtain ⟨hc, hf⟩ := bcell hb
      unfold maxLen at hc'
      have hsz := hb.size
      simp only [World.size_alloc] at hsz
      have hkx : Hid (k < xss.length) := by show _ < _; have := hl.out; omega
      clear hi
      by_cases hnl : n' = len0 xss
      · subst hnl
        go_wp2_with (go_at_call 45; refine (LENGTH_any r (some ad) n c xss _ B (by omega) (hh.out.below hbw (Nat.le_refl _)) hn0).mono ?_; rintro e w2 ⟨rfl, hb2⟩)
        clear hcell hc hf
        have hbe : Below (w.heap.size + 1) (w.alloc (.cells #[.int .i64 r, .slice (some ad) n c] 33)) w2 := hb.trans (hb2.mono hsz)
        go_loop [41] (fun i => ∃ j : Nat, j ≤ len0 xss ∧ i = .int .i64 j ∧ Hid (((rowOf xss k).take j).all smpB = true)) (fun i => len0 xss - (intOf i).toNat)
        case atStart => exact ⟨0, Nat.zero_le _, rfl, by simp [Hid]⟩
        case round =>
          obtain ⟨j, hj, rfl, HA⟩ := hrel
          by_cases hjl : j < len0 xss
          · obtain ⟨ad', rfl⟩ := hi'.out.addr (by omega)
            obtain ⟨hB', hcell⟩ := (hi'.out.below hb2 (by omega)).at_ hjl
            cases hs : smpB (elOf (rowOf xss k) j) with
            | true =>
              have HS := Lib.hid hs; clear hs
              go_wp2_with (go_at_call 88; refine (ISSAMPLE_eq _ _ HS _).mono ?_; rintro e w' ⟨rfl, rfl⟩)
              go_round
              case rel => exact ⟨j + 1, by omega, by go_num, all_take HA.out (by rw [hil.out]; exact hjl) HS.out⟩
              case measure => simp [intOf]; omega
            | false =>
              have HS := Lib.hid hs; clear hs
              go_wp2_with (go_at_call 88; refine (ISSAMPLE_eq _ _ HS _).mono ?_; rintro e w' ⟨rfl, rfl⟩)
              go_ret
              exact ⟨ret_int (by rw [hchk.out, ← HC.out, chkT_bad hkx.out hil.out (by rw [hil.out]; exact hjl) HS.out]), ((Below.refl _ _).alloc (Nat.le_refl _) _).trans (hbe.mono (by omega))⟩
          · obtain rfl : j = len0 xss := by omega
            go_wp2
            go_roundw
            case rel => exact ⟨k + 1, by omega, by go_num, (chkT_step hkx.out hil.out (by have := HA.out; rwa [List.take_of_length_le (by rw [hil.out]; omega)] at this)).trans HC.out, hbe⟩
            case measure => simp [intOf]; omega
      · have hq : ((n' : Int) != (len0 xss : Int)) = true := by simp; omega
        go_wp2_with (go_at_call 45; refine (LENGTH_any r (some ad) n c xss _ B (by omega) (hh.out.below hbw (Nat.le_refl _)) hn0).mono ?_; rintro e w2 ⟨rfl, hb2⟩)
        go_ret
        exact ⟨ret_int (by rw [hchk.out, ← HC.out, chkT_len hkx.out (by rw [hil.out]; exact hnl)]), ((Below.refl _ _).alloc (Nat.le_refl _) _).trans ((hb.mono (by omega)).trans (hb2.mono (by omega)))⟩
    · obtain rfl : k = n := by omega
      go_wp2
      go_ret
      exact ⟨ret_int (by rw [hchk.out, ← HC.out, ← hl.out, List.drop_length]; rfl), ((Below.refl _ _).alloc (Nat.le_refl _) _).trans (hb.mono (by omega))⟩

theorem CHECK_any (r : Int) (A : Option Addr) (n c : Nat) (xss : List (List Int)) (w : World) (B : Nat) (hB : B ≤ w.heap.size) (h : RowsAt w B A n xss) :
    Calls Tryz.prog 41 #[.agg #[.int .i64 r, .slice A n c]] w fun e w' => e = .returned (.int .i64 (chkS r xss)) ∧ Below w.heap.size w w' := by
  cases hr : rateB r with
  | false => exact CHECK_none r A n c xss hr w
  | true =>
    have hl := h.1
    by_cases hn : n = 0
    · subst hn; exact CHECK_zero r A c xss hr hl w
    · obtain ⟨ad, rfl⟩ := h.addr (by omega)
      by_cases hn16 : 16 < n
      · exact CHECK_many r _ n c xss hr hl hn16 w
      · by_cases hm : 100000 < len0 xss
        · exact CHECK_long r ad n c xss hr (by omega) (by omega) hm w B hB h
        · exact CHECK_rows r ad n c xss hr (by omega) (by omega) (by omega) w B hB h
end Go.Proofs.YtkmcohnhanphdaaGreatDoor

/- How a function ends whose first result is a sound that lies in memory. -/
set_option linter.unusedSimpArgs false
set_option linter.unusedVariables false
namespace Go.Proofs.YtkmcohnhanphdaaGreatDoor
open Go.RowKit Go.Dw

theorem two_set (w : World) (g : Nat) (u0 u1 v0 v1 : Value) (h0 : w.cell? ⟨g, 0, none⟩ = some u0) (h1 : w.cell? ⟨g, 1, none⟩ = some u1) :
    ((w.setCell ⟨g, 0, none⟩ v0).setCell ⟨g, 1, none⟩ v1).cell? ⟨g, 0, none⟩ = some v0 ∧ ((w.setCell ⟨g, 0, none⟩ v0).setCell ⟨g, 1, none⟩ v1).cell? ⟨g, 1, none⟩ = some v1 := by
  constructor
  · rw [World.cell?_setCell_other _ _ _ _ (by simp)]
    exact World.cell?_setCell_same w _ _ h0
  · refine World.cell?_setCell_same _ _ _ (u := u1) ?_
    rw [World.cell?_setCell_other _ _ _ _ (by simp)]
    exact h1
theorem load_snd (w : World) (g : Nat) (v0 v1 : Value) (h0 : w.cell? ⟨g, 0, none⟩ = some v0) (h1 : w.cell? ⟨g, 1, none⟩ = some v1) :
    (loadVar 33 ⟨g, 0, none⟩).run Tryz.prog w = .ok (.agg #[v0, v1]) w := by
  simp [loadVar, go_sem, h0, h1]
theorem res_snd1 {fn : Func} {p : Tmp} (h : fn.results = #[.cell p 33]) {tmps : Array Value} {w : World} {g : Nat} {v0 v1 : Value} (hp : tmps.getD p undef = .pointer (some ⟨g, 0, none⟩))
    (h0 : w.cell? ⟨g, 0, none⟩ = some v0) (h1 : w.cell? ⟨g, 1, none⟩ = some v1) : (results fn tmps).run Tryz.prog w = .ok (.agg #[v0, v1]) w := by
  have hp' : tmps[p]?.getD undef = .pointer (some ⟨g, 0, none⟩) := by simpa using hp
  simp [results, h, hp', asAddr, load_snd w g v0 v1 h0 h1]
theorem res_snd2 {fn : Func} {p u : Tmp} (h : fn.results = #[.cell p 33, .tmp u]) {tmps : Array Value} {w : World} {g : Nat} {v0 v1 : Value} (hp : tmps.getD p undef = .pointer (some ⟨g, 0, none⟩))
    (h0 : w.cell? ⟨g, 0, none⟩ = some v0) (h1 : w.cell? ⟨g, 1, none⟩ = some v1) : (results fn tmps).run Tryz.prog w = .ok (.tuple #[.agg #[v0, v1], tmps.getD u undef]) w := by
  have hp' : tmps[p]?.getD undef = .pointer (some ⟨g, 0, none⟩) := by simpa using hp
  simp [results, h, hp', asAddr, load_snd w g v0 v1 h0 h1]
theorem res_snd3 {fn : Func} {p u x : Tmp} (h : fn.results = #[.cell p 33, .tmp u, .tmp x]) {tmps : Array Value} {w : World} {g : Nat} {v0 v1 : Value} (hp : tmps.getD p undef = .pointer (some ⟨g, 0, none⟩))
    (h0 : w.cell? ⟨g, 0, none⟩ = some v0) (h1 : w.cell? ⟨g, 1, none⟩ = some v1) : (results fn tmps).run Tryz.prog w = .ok (.tuple #[.agg #[v0, v1], tmps.getD u undef, tmps.getD x undef]) w := by
  have hp' : tmps[p]?.getD undef = .pointer (some ⟨g, 0, none⟩) := by simpa using hp
  simp [results, h, hp', asAddr, load_snd w g v0 v1 h0 h1]
section
variable {fn : Func} {R : Ending → World → Prop} {a : Act} {w : World} {p u x : Tmp} {g : Nat} {v0 v1 o0 o1 : Value}
theorem end_snd1 (h : fn.results = #[.cell p 33]) (hp : a.tmps.getD p undef = .pointer (some ⟨g, 0, none⟩)) (hd : a.defers = []) (c0 : w.cell? ⟨g, 0, none⟩ = some o0) (c1 : w.cell? ⟨g, 1, none⟩ = some o1)
    (hR : R (.returned (.agg #[v0, v1])) ((w.setCell ⟨g, 0, none⟩ v0).setCell ⟨g, 1, none⟩ v1)) : bodyPost Tryz.prog fn R .ret a ((w.setCell ⟨g, 0, none⟩ v0).setCell ⟨g, 1, none⟩ v1) :=
  bodyPost_ret (res_snd1 h hp (two_set w g o0 o1 v0 v1 c0 c1).1 (two_set w g o0 o1 v0 v1 c0 c1).2) hd hR
theorem end_snd2 (h : fn.results = #[.cell p 33, .tmp u]) (hp : a.tmps.getD p undef = .pointer (some ⟨g, 0, none⟩)) (hd : a.defers = []) (c0 : w.cell? ⟨g, 0, none⟩ = some o0) (c1 : w.cell? ⟨g, 1, none⟩ = some o1)
    (hR : R (.returned (.tuple #[.agg #[v0, v1], a.tmps.getD u undef])) ((w.setCell ⟨g, 0, none⟩ v0).setCell ⟨g, 1, none⟩ v1)) : bodyPost Tryz.prog fn R .ret a ((w.setCell ⟨g, 0, none⟩ v0).setCell ⟨g, 1, none⟩ v1) :=
  bodyPost_ret (res_snd2 h hp (two_set w g o0 o1 v0 v1 c0 c1).1 (two_set w g o0 o1 v0 v1 c0 c1).2) hd hR
theorem end_snd3 (h : fn.results = #[.cell p 33, .tmp u, .tmp x]) (hp : a.tmps.getD p undef = .pointer (some ⟨g, 0, none⟩)) (hd : a.defers = []) (c0 : w.cell? ⟨g, 0, none⟩ = some o0) (c1 : w.cell? ⟨g, 1, none⟩ = some o1)
    (hR : R (.returned (.tuple #[.agg #[v0, v1], a.tmps.getD u undef, a.tmps.getD x undef])) ((w.setCell ⟨g, 0, none⟩ v0).setCell ⟨g, 1, none⟩ v1)) : bodyPost Tryz.prog fn R .ret a ((w.setCell ⟨g, 0, none⟩ v0).setCell ⟨g, 1, none⟩ v1) :=
  bodyPost_ret (res_snd3 h hp (two_set w g o0 o1 v0 v1 c0 c1).1 (two_set w g o0 o1 v0 v1 c0 c1).2) hd hR
end
/-- what a function that makes a sound returns: the value (rate, tracks), the error; the tracks are rows of its own -/
def OutS (w : World) (r : Int) (xss : List (List Int)) (f : Int) (e : Ending) (w' : World) : Prop :=
  ∃ v, e = .returned (.tuple #[.agg #[.int .i64 r, v], .int .i64 f]) ∧ OwnRows w' w.heap.size v xss ∧ Below w.heap.size w w'
/-- .. with a count between -/
def OutS3 (w : World) (r : Int) (xss : List (List Int)) (m f : Int) (e : Ending) (w' : World) : Prop :=
  ∃ v, e = .returned (.tuple #[.agg #[.int .i64 r, v], .int .i64 m, .int .i64 f]) ∧ OwnRows w' w.heap.size v xss ∧ Below w.heap.size w w'
def OutS1 (w : World) (r : Int) (xss : List (List Int)) (e : Ending) (w' : World) : Prop :=
  ∃ v, e = .returned (.agg #[.int .i64 r, v]) ∧ OwnRows w' w.heap.size v xss ∧ Below w.heap.size w w'
theorem OutS.err {w w' : World} {e : Ending} {f : Int} (he : e = .returned (.tuple #[.agg #[.int .i64 0, .slice none 0 0], .int .i64 f])) (hb : Below w.heap.size w w') : OutS w 0 [] f e w' :=
  ⟨_, he, OwnRows.nil _ _, hb⟩
theorem OutS3.err {w w' : World} {e : Ending} {f : Int} (he : e = .returned (.tuple #[.agg #[.int .i64 0, .slice none 0 0], .int .i64 0, .int .i64 f])) (hb : Below w.heap.size w w') : OutS3 w 0 [] 0 f e w' :=
  ⟨_, he, OwnRows.nil _ _, hb⟩
theorem set2_below {w w' : World} {B g : Nat} {v0 v1 : Value} (h : Below B w w') (hg : B ≤ g) : Below B w ((w'.setCell ⟨g, 0, none⟩ v0).setCell ⟨g, 1, none⟩ v1) :=
  (h.setCell (p := ⟨g, 0, none⟩) hg v0).setCell (p := ⟨g, 1, none⟩) hg v1
end Go.Proofs.YtkmcohnhanphdaaGreatDoor

/- How a function ends whose first result is a sound that lies in memory, continued: its cells known. -/
set_option linter.unusedSimpArgs false
set_option linter.unusedVariables false
namespace Go.Proofs.YtkmcohnhanphdaaGreatDoor
open Go.RowKit Go.Dw
section
variable {fn : Func} {R : Ending → World → Prop} {a : Act} {w : World} {p u x : Tmp} {g : Nat} {v0 v1 : Value}
theorem fin_snd1 (h : fn.results = #[.cell p 33]) (hp : a.tmps.getD p undef = .pointer (some ⟨g, 0, none⟩)) (hd : a.defers = []) (c0 : w.cell? ⟨g, 0, none⟩ = some v0) (c1 : w.cell? ⟨g, 1, none⟩ = some v1)
    (hR : R (.returned (.agg #[v0, v1])) w) : bodyPost Tryz.prog fn R .ret a w := bodyPost_ret (res_snd1 h hp c0 c1) hd hR
theorem fin_snd2 (h : fn.results = #[.cell p 33, .tmp u]) (hp : a.tmps.getD p undef = .pointer (some ⟨g, 0, none⟩)) (hd : a.defers = []) (c0 : w.cell? ⟨g, 0, none⟩ = some v0) (c1 : w.cell? ⟨g, 1, none⟩ = some v1)
    (hR : R (.returned (.tuple #[.agg #[v0, v1], a.tmps.getD u undef])) w) : bodyPost Tryz.prog fn R .ret a w := bodyPost_ret (res_snd2 h hp c0 c1) hd hR
theorem fin_snd3 (h : fn.results = #[.cell p 33, .tmp u, .tmp x]) (hp : a.tmps.getD p undef = .pointer (some ⟨g, 0, none⟩)) (hd : a.defers = []) (c0 : w.cell? ⟨g, 0, none⟩ = some v0) (c1 : w.cell? ⟨g, 1, none⟩ = some v1)
    (hR : R (.returned (.tuple #[.agg #[v0, v1], a.tmps.getD u undef, a.tmps.getD x undef])) w) : bodyPost Tryz.prog fn R .ret a w := bodyPost_ret (res_snd3 h hp c0 c1) hd hR
end
end Go.Proofs.YtkmcohnhanphdaaGreatDoor

/- What the reference's Check returns: chkS. -/
set_option linter.unusedSimpArgs false
set_option linter.unusedVariables false
namespace Go.Proofs.YtkmcohnhanphdaaGreatDoor
open Go.RowKit Go.Dw

end Go.Proofs.YtkmcohnhanphdaaGreatDoor


/- Peak on both sides; awake. -/
set_option linter.unusedSimpArgs false
set_option linter.unusedVariables false
namespace Go.Proofs.YtkmcohnhanphdaaGreatDoor
open Go.RowKit Go.Dw

theorem peakS_ok {r : Int} {xss : List (List Int)} (h : OkS r xss) : 0 < xss.length := h.some
/-- what Peak returns -/
def peakS (r : Int) (xss : List (List Int)) : Int × Int := if chkS r xss ≠ 0 then (0, chkS r xss) else (pkS 0 xss, 0)
theorem awake_rows (w : World) : RowsAt ((w.alloc (.cells #[.int .i64 3, .int .i64 (-5), .int .i64 2] 3)).alloc (.cells #[.slice (some ⟨w.heap.size, 0, none⟩) 3 3] 42)) (w.heap.size + 2) (some ⟨w.heap.size + 1, 0, none⟩) 1 [[3, -5, 2]] := by
  refine ⟨rfl, by simp [maxLen], fun k hk => ?_⟩
  obtain rfl : k = 0 := by omega
  refine ⟨_, rfl, by simp, some ⟨w.heap.size, 0, none⟩, 3, 3, ?_, Nat.le_refl _, by simp [maxLen], rfl, fun j hj => ⟨_, rfl, by simp, ?_⟩⟩
  · simp [Addr.add, go_sem]
  · have h : j = 0 ∨ j = 1 ∨ j = 2 := by omega
    rcases h with rfl | rfl | rfl <;> simp [Addr.add, go_sem, elOf, rowOf]
end Go.Proofs.YtkmcohnhanphdaaGreatDoor

/- slices.Equal at []int; the law's same. -/
set_option linter.unusedSimpArgs false
set_option linter.unusedVariables false
namespace Go.Proofs.YtkmcohnhanphdaaGreatDoor
open Go.RowKit Go.Dw

theorem eq_take {xs ys : List Int} {j : Nat} (h : xs.take j = ys.take j) (hx : j < xs.length) (hy : j < ys.length) (he : elOf xs j = elOf ys j) : xs.take (j + 1) = ys.take (j + 1) := by
  rw [List.take_succ_eq_append_getElem hx, List.take_succ_eq_append_getElem hy, h]
  simp only [elOf, List.getD, List.getElem?_eq_getElem hx, List.getElem?_eq_getElem hy, Option.getD_some] at he
  rw [he]
theorem el_ne {xs ys : List Int} {j : Nat} (he : elOf xs j ≠ elOf ys j) : xs ≠ ys := fun e => he (by rw [e])

set_option maxHeartbeats 400000 in
theorem EQINTS_len (A A' : Option Addr) (n c m c' : Nat) (hne : n ≠ m) (w : World) :
    Calls Tryz.prog 47 #[.slice A n c, .slice A' m c'] w fun e w' => e = .returned (.bool false) ∧ ∃ q, w' = w.drewN q := by
  have hq : ((n : Int) != (m : Int)) = true := by simp; omega
  go_enter Tryz.func47, Tryz.ntmps47
  go_wp2
  go_ret
  exact ⟨rfl, 0, rfl⟩

set_option maxHeartbeats 800000 in
theorem EQINTS_same (A A' : Option Addr) (n c c' : Nat) (xs ys : List Int) (w : World) (B : Nat) (hn : n ≤ 9223372036854775807) (hx : Hid (IntsAt w B A n xs)) (hy : Hid (IntsAt w B A' n ys)) :
    Calls Tryz.prog 47 #[.slice A n c, .slice A' n c'] w fun e w' => e = .returned (.bool (decide (xs = ys))) ∧ ∃ q, w' = w.drewN q := by
  have hxl := Lib.hid hx.out.1
  have hyl := Lib.hid hy.out.1
  go_enter Tryz.func47, Tryz.ntmps47
  go_wp2
  go_loopw [13] (fun i wr => ∃ j : Nat, j ≤ n ∧ i = .int .i64 j ∧ Hid (xs.take j = ys.take j) ∧ Hid (∃ q, wr = w.drewN q)) (fun i _ => n - (intOf i).toNat)
  case atStart => exact ⟨0, Nat.zero_le _, rfl, rfl, 0, rfl⟩
  case round =>
    obtain ⟨j, hj, rfl, HT, q, rfl⟩ := hrel
    by_cases hlt : j < n
    · obtain ⟨ad, rfl⟩ := hx.out.addr (by omega)
      obtain ⟨ad', rfl⟩ := hy.out.addr (by omega)
      have hc1 := (hx.out.at_ hlt).2
      have hc2 := (hy.out.at_ hlt).2
      have hj0 : (0 : Int) ≤ (j : Int) := by omega
      have hjn : (j : Int) < (n : Int) := by omega
      by_cases he : elOf xs j = elOf ys j
      · have hq : (elOf xs j != elOf ys j) = false := by simpa using he
        have HE := Lib.hid he
        clear he
        go_wp2
        go_quiet (fail)
        go_wp2
        go_roundw
        case rel => exact ⟨j + 1, by omega, by go_num, eq_take HT.out (by rw [hxl.out]; exact hlt) (by rw [hyl.out]; exact hlt) HE.out, _, rfl⟩
        case measure => simp [intOf]; omega
      · have hq : (elOf xs j != elOf ys j) = true := by simpa using he
        have HE := Lib.hid he
        clear he
        go_wp2
        go_quiet (fail)
        go_wp2
        go_ret
        exact ⟨ret_bool (by simp [el_ne HE.out]), _, World.drewN_drewN _ _ _⟩
    · obtain rfl : j = n := by omega
      go_wp2
      go_ret
      exact ⟨ret_bool (by have := HT.out; rw [List.take_of_length_le (by rw [hxl.out]; omega), List.take_of_length_le (by rw [hyl.out]; omega)] at this; simp [this]), _, rfl⟩

theorem EQINTS_any (A A' : Option Addr) (n c m c' : Nat) (xs ys : List Int) (w : World) (B : Nat) (hn : n ≤ 9223372036854775807) (hx : IntsAt w B A n xs) (hy : IntsAt w B A' m ys) :
    Calls Tryz.prog 47 #[.slice A n c, .slice A' m c'] w fun e w' => e = .returned (.bool (decide (xs = ys))) ∧ ∃ q, w' = w.drewN q := by
  by_cases h : n = m
  · subst h; exact EQINTS_same A A' n c c' xs ys w B hn hx hy
  · refine (EQINTS_len A A' n c m c' h w).mono fun e w' he => ⟨he.1.trans (ret_bool ?_), he.2⟩
    have : xs ≠ ys := fun e => h (by rw [← hx.1, ← hy.1, e])
    simp [this]

/-- what the law's same says -/
def sameS (r : Int) (xss : List (List Int)) (r' : Int) (yss : List (List Int)) : Bool := decide (r = r' ∧ xss = yss)
theorem rows_take {xss yss : List (List Int)} {k : Nat} (h : xss.take k = yss.take k) (hx : k < xss.length) (hy : k < yss.length) (he : rowOf xss k = rowOf yss k) : xss.take (k + 1) = yss.take (k + 1) := by
  rw [List.take_succ_eq_append_getElem hx, List.take_succ_eq_append_getElem hy, h]
  simp only [rowOf, List.getD, List.getElem?_eq_getElem hx, List.getElem?_eq_getElem hy, Option.getD_some] at he
  rw [he]

end Go.Proofs.YtkmcohnhanphdaaGreatDoor
