/- What sound.Check and the reference's Check return: chkS. -/
import Derived.Test.YtlnjildkdmeflaaDoorProg
import Derived.Test.YtlnjildkdmeflaaDoorBase
import Derived.Test.YtlnjildkdmeflaaDoorMem
import Derived.Deep.RegionHeld3
import Derived.Deep.QuietTactic
import Derived.BigQuiet
set_option linter.unusedSimpArgs false
set_option linter.unusedVariables false
namespace Go.Proofs.YtlnjildkdmeflaaDoor
open Go.RowKit Go.Dw


set_option maxHeartbeats 400000 in
theorem ISRATE_eq (a : Int) (b : Bool) (hb : Hid (rateB a = b)) (w : World) :
    Calls Tryd.prog 34 #[.int .i64 a] w fun e w' => e = .returned (.bool b) ∧ w = w' := by
  have hb' := hb.out
  clear hb
  by_cases h1 : 1 ≤ a
  · by_cases h2 : a ≤ 1000000
    · go_enter Tryd.func34, Tryd.ntmps34
      go_wp2
      go_ret
      exact ⟨ret_bool (by rw [← hb']; simp [rateB, h1, h2]), rfl⟩
    · go_enter Tryd.func34, Tryd.ntmps34
      go_wp2
      go_ret
      exact ⟨ret_bool (by rw [← hb']; simp [rateB, h1, h2]), rfl⟩
  · go_enter Tryd.func34, Tryd.ntmps34
    go_wp2
    go_ret
    exact ⟨ret_bool (by rw [← hb']; simp [rateB]; omega), rfl⟩
set_option maxHeartbeats 400000 in
theorem RISRATE_eq (a : Int) (b : Bool) (hb : Hid (rateB a = b)) (w : World) :
    Calls Tryd.prog 29 #[.int .i64 a] w fun e w' => e = .returned (.bool b) ∧ w = w' := by
  have hb' := hb.out
  clear hb
  by_cases h1 : 1 ≤ a
  · by_cases h2 : a ≤ 1000000
    · go_enter Tryd.func29, Tryd.ntmps29
      go_wp2
      go_ret
      exact ⟨ret_bool (by rw [← hb']; simp [rateB, h1, h2]), rfl⟩
    · go_enter Tryd.func29, Tryd.ntmps29
      go_wp2
      go_ret
      exact ⟨ret_bool (by rw [← hb']; simp [rateB, h1, h2]), rfl⟩
  · go_enter Tryd.func29, Tryd.ntmps29
    go_wp2
    go_ret
    exact ⟨ret_bool (by rw [← hb']; simp [rateB]; omega), rfl⟩
set_option maxHeartbeats 400000 in
theorem ISSAMPLE_eq (a : Int) (b : Bool) (hb : Hid (smpB a = b)) (w : World) :
    Calls Tryd.prog 35 #[.int .i64 a] w fun e w' => e = .returned (.bool b) ∧ w = w' := by
  have hb' := hb.out
  clear hb
  by_cases h1 : -8388608 ≤ a
  · by_cases h2 : a ≤ 8388607
    · go_enter Tryd.func35, Tryd.ntmps35
      go_wp2
      go_ret
      exact ⟨ret_bool (by rw [← hb']; simp [smpB, h1, h2]), rfl⟩
    · go_enter Tryd.func35, Tryd.ntmps35
      go_wp2
      go_ret
      exact ⟨ret_bool (by rw [← hb']; simp [smpB, h1, h2]), rfl⟩
  · go_enter Tryd.func35, Tryd.ntmps35
    go_wp2
    go_ret
    exact ⟨ret_bool (by rw [← hb']; simp [smpB]; omega), rfl⟩

set_option maxHeartbeats 400000 in
theorem LENGTH_any (r : Int) (A : Option Addr) (n c : Nat) (xss : List (List Int)) (w : World) (B : Nat) (hB : B ≤ w.heap.size) (h : RowsAt w B A n xss) (hn : 0 < n) :
    Calls Tryd.prog 16 #[.agg #[.int .i64 r, .slice A n c]] w fun e w' => e = .returned (.int .i64 (len0 xss : Nat)) ∧ Below w.heap.size w w' := by
  obtain ⟨ad, rfl, hlt, A', n', c', hc, h1, h2, hi⟩ := h.2.2 0 hn
  have hl := Lib.hid hi.1
  have hc' : (w.alloc (.cells #[.int .i64 r, .slice (some ad) n c] 24)).cell? ad = some (.slice A' n' c') := by
    rw [World.cell?_alloc_lt _ _ _ (by omega)]; simpa [Addr.add] using hc
  have hn0 : (0 : Int) < (n : Int) := by omega
  clear hi h hc
  go_enter Tryd.func16, Tryd.ntmps16
  go_wp2
  go_ret
  exact ⟨ret_int (by unfold len0; rw [← hl.out]; rfl), (Below.refl _ _).alloc (Nat.le_refl _) _⟩
set_option maxHeartbeats 400000 in
theorem RLONG_any (r : Int) (A : Option Addr) (n c : Nat) (xss : List (List Int)) (w : World) (B : Nat) (hB : B ≤ w.heap.size) (h : RowsAt w B A n xss) (hn : 0 < n) :
    Calls Tryd.prog 20 #[.agg #[.int .i64 r, .slice A n c]] w fun e w' => e = .returned (.int .i64 (len0 xss : Nat)) ∧ Below w.heap.size w w' := by
  obtain ⟨ad, rfl, hlt, A', n', c', hc, h1, h2, hi⟩ := h.2.2 0 hn
  have hl := Lib.hid hi.1
  have hc' : (w.alloc (.cells #[.int .i64 r, .slice (some ad) n c] 24)).cell? ad = some (.slice A' n' c') := by
    rw [World.cell?_alloc_lt _ _ _ (by omega)]; simpa [Addr.add] using hc
  have hn0 : (0 : Int) < (n : Int) := by omega
  clear hi h hc
  go_enter Tryd.func20, Tryd.ntmps20
  go_wp2
  go_ret
  exact ⟨ret_int (by unfold len0; rw [← hl.out]; rfl), (Below.refl _ _).alloc (Nat.le_refl _) _⟩

set_option maxHeartbeats 400000 in
theorem CHECK_none (r : Int) (A : Option Addr) (n c : Nat) (xss : List (List Int)) (hr : Hid (rateB r = false)) (w : World) :
    Calls Tryd.prog 13 #[.agg #[.int .i64 r, .slice A n c]] w fun e w' => e = .returned (.int .i64 (chkS r xss)) ∧ Below w.heap.size w w' := by
  go_enter Tryd.func13, Tryd.ntmps13
  go_wp2_with (go_at_call 34; refine (ISRATE_eq _ _ hr _).mono ?_; rintro e w' ⟨rfl, rfl⟩)
  go_ret
  exact ⟨ret_int (chkS_rate hr.out).symm, (Below.refl _ _).alloc (Nat.le_refl _) _⟩

set_option maxHeartbeats 400000 in
theorem CHECK_zero (r : Int) (A : Option Addr) (c : Nat) (xss : List (List Int)) (hr : Hid (rateB r = true)) (hl : Hid (xss.length = 0)) (w : World) :
    Calls Tryd.prog 13 #[.agg #[.int .i64 r, .slice A 0 c]] w fun e w' => e = .returned (.int .i64 (chkS r xss)) ∧ Below w.heap.size w w' := by
  go_enter Tryd.func13, Tryd.ntmps13
  go_wp2_with (go_at_call 34; refine (ISRATE_eq _ _ hr _).mono ?_; rintro e w' ⟨rfl, rfl⟩)
  go_ret
  exact ⟨ret_int (chkS_none hr.out hl.out).symm, (Below.refl _ _).alloc (Nat.le_refl _) _⟩

set_option maxHeartbeats 400000 in
theorem CHECK_many (r : Int) (A : Option Addr) (n c : Nat) (xss : List (List Int)) (hr : Hid (rateB r = true)) (hl : Hid (xss.length = n)) (hn : 16 < n) (w : World) :
    Calls Tryd.prog 13 #[.agg #[.int .i64 r, .slice A n c]] w fun e w' => e = .returned (.int .i64 (chkS r xss)) ∧ Below w.heap.size w w' := by
  have hq0 : (((n : Int)) == 0) = false := by simp; omega
  have hq16 : (16 : Int) < (n : Int) := by omega
  go_enter Tryd.func13, Tryd.ntmps13
  go_wp2_with (go_at_call 34; refine (ISRATE_eq _ _ hr _).mono ?_; rintro e w' ⟨rfl, rfl⟩)
  go_ret
  exact ⟨ret_int (chkS_big hr.out (by rw [hl.out]; omega) (by rw [hl.out]; exact .inl hn)).symm, (Below.refl _ _).alloc (Nat.le_refl _) _⟩

set_option maxHeartbeats 400000 in
theorem CHECK_long (r : Int) (ad : Addr) (n c : Nat) (xss : List (List Int)) (hr : Hid (rateB r = true)) (hn0 : 0 < n) (hn : n ≤ 16) (hm : 100000 < len0 xss) (w : World) (B : Nat) (hB : B ≤ w.heap.size) (hh : Hid (RowsAt w B (some ad) n xss)) :
    Calls Tryd.prog 13 #[.agg #[.int .i64 r, .slice (some ad) n c]] w fun e w' => e = .returned (.int .i64 (chkS r xss)) ∧ Below w.heap.size w w' := by
  have hl := Lib.hid hh.out.1
  have hq0 : (((n : Int)) == 0) = false := by simp; omega
  have hq16 : ¬ (16 : Int) < (n : Int) := by omega
  have hqm : (100000 : Int) < (len0 xss : Int) := by omega
  go_enter Tryd.func13, Tryd.ntmps13
  go_wp2_with (first
    | (go_at_call 34; refine (ISRATE_eq _ _ hr _).mono ?_; rintro e w' ⟨rfl, rfl⟩)
    | (go_at_call 16; refine (LENGTH_any r (some ad) n c xss _ B (by simp; omega) (hh.out.below ((Below.refl B w).alloc hB _) (Nat.le_refl _)) hn0).mono ?_; rintro e w1 ⟨rfl, hb1⟩; obtain ⟨hc, hf⟩ := bcell hb1))
  go_ret
  exact ⟨ret_int (chkS_big hr.out (by rw [hl.out]; omega) (.inr hm)).symm, ((Below.refl _ _).alloc (Nat.le_refl _) _).trans (hb1.mono (by simp))⟩

set_option maxHeartbeats 800000 in
theorem CHECK_rows (r : Int) (ad : Addr) (n c : Nat) (xss : List (List Int)) (hr : Hid (rateB r = true)) (hn0 : 0 < n) (hn : n ≤ 16) (hm : len0 xss ≤ 100000) (w : World) (B : Nat) (hB : B ≤ w.heap.size) (hh : Hid (RowsAt w B (some ad) n xss)) :
    Calls Tryd.prog 13 #[.agg #[.int .i64 r, .slice (some ad) n c]] w fun e w' => e = .returned (.int .i64 (chkS r xss)) ∧ Below w.heap.size w w' := by
  have hl := Lib.hid hh.out.1
  have hchk : Hid (chkS r xss = chkT (len0 xss) xss) := chkS_rows hr.out (by rw [hl.out]; exact hn0) (by rw [hl.out]; omega) hm
  have hq0 : (((n : Int)) == 0) = false := by simp; omega
  have hq16 : ¬ (16 : Int) < (n : Int) := by omega
  have hqm : ¬ (100000 : Int) < (len0 xss : Int) := by omega
  go_enter Tryd.func13, Tryd.ntmps13
  go_wp2_with (first
    | (go_at_call 34; refine (ISRATE_eq _ _ hr _).mono ?_; rintro e w' ⟨rfl, rfl⟩)
    | (go_at_call 16; refine (LENGTH_any r (some ad) n c xss _ B (by simp; omega) (hh.out.below ((Below.refl B w).alloc hB _) (Nat.le_refl _)) hn0).mono ?_; rintro e w1 ⟨rfl, hb1⟩; obtain ⟨hc, hf⟩ := bcell hb1))
  clear hc hf
  go_loopw [30] (fun i wr => ∃ k : Nat, k ≤ n ∧ i = .int .i64 k ∧ Hid (chkT (len0 xss) (xss.drop k) = chkT (len0 xss) xss) ∧ Below (w.heap.size + 1) (w.alloc (.cells #[.int .i64 r, .slice (some ad) n c] 24)) wr) (fun i _ => n - (intOf i).toNat)
  case atStart => exact ⟨0, Nat.zero_le _, rfl, rfl, by simpa using hb1⟩
  case round =>
    obtain ⟨k, hk, rfl, HC, hb⟩ := hrel
    have hbw : Below B w wr := ((Below.refl B w).alloc hB _).trans (hb.mono (by omega))
    by_cases hlt : k < n
    · obtain ⟨A', n', c', hadB, hcell, hn', hc', hi⟩ := (hh.out.below hbw (Nat.le_refl _)).row hlt
      have hil : Hid ((rowOf xss k).length = n') := hi.1
      have hi' := Lib.hid hi
      obtain ⟨hc, hf⟩ := bcell hb
      unfold maxLen at hc'
      have hsz := hb.size
      simp only [World.size_alloc] at hsz
      have hkx : Hid (k < xss.length) := by show _ < _; have := hl.out; omega
      clear hi
      by_cases hnl : n' = len0 xss
      · subst hnl
        go_wp2_with (go_at_call 16; refine (LENGTH_any r (some ad) n c xss _ B (by omega) (hh.out.below hbw (Nat.le_refl _)) hn0).mono ?_; rintro e w2 ⟨rfl, hb2⟩)
        clear hcell hc hf
        have hbe : Below (w.heap.size + 1) (w.alloc (.cells #[.int .i64 r, .slice (some ad) n c] 24)) w2 := hb.trans (hb2.mono hsz)
        go_loop [41] (fun i => ∃ j : Nat, j ≤ len0 xss ∧ i = .int .i64 j ∧ Hid (((rowOf xss k).take j).all smpB = true)) (fun i => len0 xss - (intOf i).toNat)
        case atStart => exact ⟨0, Nat.zero_le _, rfl, by simp [Hid]⟩
        case round =>
          obtain ⟨j, hj, rfl, HA⟩ := hrel
          by_cases hjl : j < len0 xss
          · obtain ⟨ad', rfl⟩ := hi'.out.addr (by omega)
            obtain ⟨hB', hcell⟩ := (hi'.out.below hb2 (by omega)).at_ hjl
            cases hs : smpB (elOf (rowOf xss k) j) with
            | true =>
              have HS := Lib.hid hs; clear hs
              go_wp2_with (go_at_call 35; refine (ISSAMPLE_eq _ _ HS _).mono ?_; rintro e w' ⟨rfl, rfl⟩)
              go_round
              case rel => exact ⟨j + 1, by omega, by go_num, all_take HA.out (by rw [hil.out]; exact hjl) HS.out⟩
              case measure => simp [intOf]; omega
            | false =>
              have HS := Lib.hid hs; clear hs
              go_wp2_with (go_at_call 35; refine (ISSAMPLE_eq _ _ HS _).mono ?_; rintro e w' ⟨rfl, rfl⟩)
              go_ret
              exact ⟨ret_int (by rw [hchk.out, ← HC.out, chkT_bad hkx.out hil.out (by rw [hil.out]; exact hjl) HS.out]), ((Below.refl _ _).alloc (Nat.le_refl _) _).trans (hbe.mono (by omega))⟩
          · obtain rfl : j = len0 xss := by omega
            go_wp2
            go_roundw
            case rel => exact ⟨k + 1, by omega, by go_num, (chkT_step hkx.out hil.out (by have := HA.out; rwa [List.take_of_length_le (by rw [hil.out]; omega)] at this)).trans HC.out, hbe⟩
            case measure => simp [intOf]; omega
      · have hq : ((n' : Int) != (len0 xss : Int)) = true := by simp; omega
        go_wp2_with (go_at_call 16; refine (LENGTH_any r (some ad) n c xss _ B (by omega) (hh.out.below hbw (Nat.le_refl _)) hn0).mono ?_; rintro e w2 ⟨rfl, hb2⟩)
        go_ret
        exact ⟨ret_int (by rw [hchk.out, ← HC.out, chkT_len hkx.out (by rw [hil.out]; exact hnl)]), ((Below.refl _ _).alloc (Nat.le_refl _) _).trans ((hb.mono (by omega)).trans (hb2.mono (by omega)))⟩
    · obtain rfl : k = n := by omega
      go_wp2
      go_ret
      exact ⟨ret_int (by rw [hchk.out, ← HC.out, ← hl.out, List.drop_length]; rfl), ((Below.refl _ _).alloc (Nat.le_refl _) _).trans (hb.mono (by omega))⟩

theorem CHECK_any (r : Int) (A : Option Addr) (n c : Nat) (xss : List (List Int)) (w : World) (B : Nat) (hB : B ≤ w.heap.size) (h : RowsAt w B A n xss) :
    Calls Tryd.prog 13 #[.agg #[.int .i64 r, .slice A n c]] w fun e w' => e = .returned (.int .i64 (chkS r xss)) ∧ Below w.heap.size w w' := by
  cases hr : rateB r with
  | false => exact CHECK_none r A n c xss hr w
  | true =>
    have hl := h.1
    by_cases hn : n = 0
    · subst hn; exact CHECK_zero r A c xss hr hl w
    · obtain ⟨ad, rfl⟩ := h.addr (by omega)
      by_cases hn16 : 16 < n
      · exact CHECK_many r _ n c xss hr hl hn16 w
      · by_cases hm : 100000 < len0 xss
        · exact CHECK_long r ad n c xss hr (by omega) (by omega) hm w B hB h
        · exact CHECK_rows r ad n c xss hr (by omega) (by omega) (by omega) w B hB h
end Go.Proofs.YtlnjildkdmeflaaDoor

/- How a function ends whose first result is a sound that lies in memory. -/
set_option linter.unusedSimpArgs false
set_option linter.unusedVariables false
namespace Go.Proofs.YtlnjildkdmeflaaDoor
open Go.RowKit Go.Dw

theorem two_set (w : World) (g : Nat) (u0 u1 v0 v1 : Value) (h0 : w.cell? ⟨g, 0, none⟩ = some u0) (h1 : w.cell? ⟨g, 1, none⟩ = some u1) :
    ((w.setCell ⟨g, 0, none⟩ v0).setCell ⟨g, 1, none⟩ v1).cell? ⟨g, 0, none⟩ = some v0 ∧ ((w.setCell ⟨g, 0, none⟩ v0).setCell ⟨g, 1, none⟩ v1).cell? ⟨g, 1, none⟩ = some v1 := by
  constructor
  · rw [World.cell?_setCell_other _ _ _ _ (by simp)]
    exact World.cell?_setCell_same w _ _ h0
  · refine World.cell?_setCell_same _ _ _ (u := u1) ?_
    rw [World.cell?_setCell_other _ _ _ _ (by simp)]
    exact h1
theorem load_snd (w : World) (g : Nat) (v0 v1 : Value) (h0 : w.cell? ⟨g, 0, none⟩ = some v0) (h1 : w.cell? ⟨g, 1, none⟩ = some v1) :
    (loadVar 24 ⟨g, 0, none⟩).run Tryd.prog w = .ok (.agg #[v0, v1]) w := by
  simp [loadVar, go_sem, h0, h1]
theorem res_snd1 {fn : Func} {p : Tmp} (h : fn.results = #[.cell p 24]) {tmps : Array Value} {w : World} {g : Nat} {v0 v1 : Value} (hp : tmps.getD p undef = .pointer (some ⟨g, 0, none⟩))
    (h0 : w.cell? ⟨g, 0, none⟩ = some v0) (h1 : w.cell? ⟨g, 1, none⟩ = some v1) : (results fn tmps).run Tryd.prog w = .ok (.agg #[v0, v1]) w := by
  have hp' : tmps[p]?.getD undef = .pointer (some ⟨g, 0, none⟩) := by simpa using hp
  simp [results, h, hp', asAddr, load_snd w g v0 v1 h0 h1]
theorem res_snd2 {fn : Func} {p u : Tmp} (h : fn.results = #[.cell p 24, .tmp u]) {tmps : Array Value} {w : World} {g : Nat} {v0 v1 : Value} (hp : tmps.getD p undef = .pointer (some ⟨g, 0, none⟩))
    (h0 : w.cell? ⟨g, 0, none⟩ = some v0) (h1 : w.cell? ⟨g, 1, none⟩ = some v1) : (results fn tmps).run Tryd.prog w = .ok (.tuple #[.agg #[v0, v1], tmps.getD u undef]) w := by
  have hp' : tmps[p]?.getD undef = .pointer (some ⟨g, 0, none⟩) := by simpa using hp
  simp [results, h, hp', asAddr, load_snd w g v0 v1 h0 h1]
theorem res_snd3 {fn : Func} {p u x : Tmp} (h : fn.results = #[.cell p 24, .tmp u, .tmp x]) {tmps : Array Value} {w : World} {g : Nat} {v0 v1 : Value} (hp : tmps.getD p undef = .pointer (some ⟨g, 0, none⟩))
    (h0 : w.cell? ⟨g, 0, none⟩ = some v0) (h1 : w.cell? ⟨g, 1, none⟩ = some v1) : (results fn tmps).run Tryd.prog w = .ok (.tuple #[.agg #[v0, v1], tmps.getD u undef, tmps.getD x undef]) w := by
  have hp' : tmps[p]?.getD undef = .pointer (some ⟨g, 0, none⟩) := by simpa using hp
  simp [results, h, hp', asAddr, load_snd w g v0 v1 h0 h1]
section
variable {fn : Func} {R : Ending → World → Prop} {a : Act} {w : World} {p u x : Tmp} {g : Nat} {v0 v1 o0 o1 : Value}
theorem end_snd1 (h : fn.results = #[.cell p 24]) (hp : a.tmps.getD p undef = .pointer (some ⟨g, 0, none⟩)) (hd : a.defers = []) (c0 : w.cell? ⟨g, 0, none⟩ = some o0) (c1 : w.cell? ⟨g, 1, none⟩ = some o1)
    (hR : R (.returned (.agg #[v0, v1])) ((w.setCell ⟨g, 0, none⟩ v0).setCell ⟨g, 1, none⟩ v1)) : bodyPost Tryd.prog fn R .ret a ((w.setCell ⟨g, 0, none⟩ v0).setCell ⟨g, 1, none⟩ v1) :=
  bodyPost_ret (res_snd1 h hp (two_set w g o0 o1 v0 v1 c0 c1).1 (two_set w g o0 o1 v0 v1 c0 c1).2) hd hR
theorem end_snd2 (h : fn.results = #[.cell p 24, .tmp u]) (hp : a.tmps.getD p undef = .pointer (some ⟨g, 0, none⟩)) (hd : a.defers = []) (c0 : w.cell? ⟨g, 0, none⟩ = some o0) (c1 : w.cell? ⟨g, 1, none⟩ = some o1)
    (hR : R (.returned (.tuple #[.agg #[v0, v1], a.tmps.getD u undef])) ((w.setCell ⟨g, 0, none⟩ v0).setCell ⟨g, 1, none⟩ v1)) : bodyPost Tryd.prog fn R .ret a ((w.setCell ⟨g, 0, none⟩ v0).setCell ⟨g, 1, none⟩ v1) :=
  bodyPost_ret (res_snd2 h hp (two_set w g o0 o1 v0 v1 c0 c1).1 (two_set w g o0 o1 v0 v1 c0 c1).2) hd hR
theorem end_snd3 (h : fn.results = #[.cell p 24, .tmp u, .tmp x]) (hp : a.tmps.getD p undef = .pointer (some ⟨g, 0, none⟩)) (hd : a.defers = []) (c0 : w.cell? ⟨g, 0, none⟩ = some o0) (c1 : w.cell? ⟨g, 1, none⟩ = some o1)
    (hR : R (.returned (.tuple #[.agg #[v0, v1], a.tmps.getD u undef, a.tmps.getD x undef])) ((w.setCell ⟨g, 0, none⟩ v0).setCell ⟨g, 1, none⟩ v1)) : bodyPost Tryd.prog fn R .ret a ((w.setCell ⟨g, 0, none⟩ v0).setCell ⟨g, 1, none⟩ v1) :=
  bodyPost_ret (res_snd3 h hp (two_set w g o0 o1 v0 v1 c0 c1).1 (two_set w g o0 o1 v0 v1 c0 c1).2) hd hR
end
/-- what a function that makes a sound returns: the value (rate, tracks), the error; the tracks are rows of its own -/
def OutS (w : World) (r : Int) (xss : List (List Int)) (f : Int) (e : Ending) (w' : World) : Prop :=
  ∃ v, e = .returned (.tuple #[.agg #[.int .i64 r, v], .int .i64 f]) ∧ OwnRows w' w.heap.size v xss ∧ Below w.heap.size w w'
/-- .. with a count between -/
def OutS3 (w : World) (r : Int) (xss : List (List Int)) (m f : Int) (e : Ending) (w' : World) : Prop :=
  ∃ v, e = .returned (.tuple #[.agg #[.int .i64 r, v], .int .i64 m, .int .i64 f]) ∧ OwnRows w' w.heap.size v xss ∧ Below w.heap.size w w'
def OutS1 (w : World) (r : Int) (xss : List (List Int)) (e : Ending) (w' : World) : Prop :=
  ∃ v, e = .returned (.agg #[.int .i64 r, v]) ∧ OwnRows w' w.heap.size v xss ∧ Below w.heap.size w w'
theorem OutS.err {w w' : World} {e : Ending} {f : Int} (he : e = .returned (.tuple #[.agg #[.int .i64 0, .slice none 0 0], .int .i64 f])) (hb : Below w.heap.size w w') : OutS w 0 [] f e w' :=
  ⟨_, he, OwnRows.nil _ _, hb⟩
theorem OutS3.err {w w' : World} {e : Ending} {f : Int} (he : e = .returned (.tuple #[.agg #[.int .i64 0, .slice none 0 0], .int .i64 0, .int .i64 f])) (hb : Below w.heap.size w w') : OutS3 w 0 [] 0 f e w' :=
  ⟨_, he, OwnRows.nil _ _, hb⟩
theorem set2_below {w w' : World} {B g : Nat} {v0 v1 : Value} (h : Below B w w') (hg : B ≤ g) : Below B w ((w'.setCell ⟨g, 0, none⟩ v0).setCell ⟨g, 1, none⟩ v1) :=
  (h.setCell (p := ⟨g, 0, none⟩) hg v0).setCell (p := ⟨g, 1, none⟩) hg v1
end Go.Proofs.YtlnjildkdmeflaaDoor

/- How a function ends whose first result is a sound that lies in memory, continued: its cells known. -/
set_option linter.unusedSimpArgs false
set_option linter.unusedVariables false
namespace Go.Proofs.YtlnjildkdmeflaaDoor
open Go.RowKit Go.Dw
section
variable {fn : Func} {R : Ending → World → Prop} {a : Act} {w : World} {p u x : Tmp} {g : Nat} {v0 v1 : Value}
theorem fin_snd1 (h : fn.results = #[.cell p 24]) (hp : a.tmps.getD p undef = .pointer (some ⟨g, 0, none⟩)) (hd : a.defers = []) (c0 : w.cell? ⟨g, 0, none⟩ = some v0) (c1 : w.cell? ⟨g, 1, none⟩ = some v1)
    (hR : R (.returned (.agg #[v0, v1])) w) : bodyPost Tryd.prog fn R .ret a w := bodyPost_ret (res_snd1 h hp c0 c1) hd hR
theorem fin_snd2 (h : fn.results = #[.cell p 24, .tmp u]) (hp : a.tmps.getD p undef = .pointer (some ⟨g, 0, none⟩)) (hd : a.defers = []) (c0 : w.cell? ⟨g, 0, none⟩ = some v0) (c1 : w.cell? ⟨g, 1, none⟩ = some v1)
    (hR : R (.returned (.tuple #[.agg #[v0, v1], a.tmps.getD u undef])) w) : bodyPost Tryd.prog fn R .ret a w := bodyPost_ret (res_snd2 h hp c0 c1) hd hR
theorem fin_snd3 (h : fn.results = #[.cell p 24, .tmp u, .tmp x]) (hp : a.tmps.getD p undef = .pointer (some ⟨g, 0, none⟩)) (hd : a.defers = []) (c0 : w.cell? ⟨g, 0, none⟩ = some v0) (c1 : w.cell? ⟨g, 1, none⟩ = some v1)
    (hR : R (.returned (.tuple #[.agg #[v0, v1], a.tmps.getD u undef, a.tmps.getD x undef])) w) : bodyPost Tryd.prog fn R .ret a w := bodyPost_ret (res_snd3 h hp c0 c1) hd hR
end
end Go.Proofs.YtlnjildkdmeflaaDoor

/- What the reference's Check returns: chkS. -/
set_option linter.unusedSimpArgs false
set_option linter.unusedVariables false
namespace Go.Proofs.YtlnjildkdmeflaaDoor
open Go.RowKit Go.Dw

set_option maxHeartbeats 400000 in
theorem RCHECK_none (r : Int) (A : Option Addr) (n c : Nat) (xss : List (List Int)) (hr : Hid (rateB r = false)) (w : World) :
    Calls Tryd.prog 19 #[.agg #[.int .i64 r, .slice A n c]] w fun e w' => e = .returned (.int .i64 (chkS r xss)) ∧ Below w.heap.size w w' := by
  go_enter Tryd.func19, Tryd.ntmps19
  go_wp2_with (go_at_call 29; refine (RISRATE_eq _ _ hr _).mono ?_; rintro e w' ⟨rfl, rfl⟩)
  go_ret
  exact ⟨ret_int (chkS_rate hr.out).symm, (Below.refl _ _).alloc (Nat.le_refl _) _⟩

set_option maxHeartbeats 400000 in
theorem RCHECK_zero (r : Int) (A : Option Addr) (c : Nat) (xss : List (List Int)) (hr : Hid (rateB r = true)) (hl : Hid (xss.length = 0)) (w : World) :
    Calls Tryd.prog 19 #[.agg #[.int .i64 r, .slice A 0 c]] w fun e w' => e = .returned (.int .i64 (chkS r xss)) ∧ Below w.heap.size w w' := by
  go_enter Tryd.func19, Tryd.ntmps19
  go_wp2_with (go_at_call 29; refine (RISRATE_eq _ _ hr _).mono ?_; rintro e w' ⟨rfl, rfl⟩)
  go_ret
  exact ⟨ret_int (chkS_none hr.out hl.out).symm, (Below.refl _ _).alloc (Nat.le_refl _) _⟩

set_option maxHeartbeats 400000 in
theorem RCHECK_many (r : Int) (A : Option Addr) (n c : Nat) (xss : List (List Int)) (hr : Hid (rateB r = true)) (hl : Hid (xss.length = n)) (hn : 16 < n) (w : World) :
    Calls Tryd.prog 19 #[.agg #[.int .i64 r, .slice A n c]] w fun e w' => e = .returned (.int .i64 (chkS r xss)) ∧ Below w.heap.size w w' := by
  have hq0 : (((n : Int)) == 0) = false := by simp; omega
  have hq16 : (16 : Int) < (n : Int) := by omega
  go_enter Tryd.func19, Tryd.ntmps19
  go_wp2_with (go_at_call 29; refine (RISRATE_eq _ _ hr _).mono ?_; rintro e w' ⟨rfl, rfl⟩)
  go_ret
  exact ⟨ret_int (chkS_big hr.out (by rw [hl.out]; omega) (by rw [hl.out]; exact .inl hn)).symm, (Below.refl _ _).alloc (Nat.le_refl _) _⟩

set_option maxHeartbeats 400000 in
theorem RCHECK_long (r : Int) (ad : Addr) (n c : Nat) (xss : List (List Int)) (hr : Hid (rateB r = true)) (hn0 : 0 < n) (hn : n ≤ 16) (hm : 100000 < len0 xss) (w : World) (B : Nat) (hB : B ≤ w.heap.size) (hh : Hid (RowsAt w B (some ad) n xss)) :
    Calls Tryd.prog 19 #[.agg #[.int .i64 r, .slice (some ad) n c]] w fun e w' => e = .returned (.int .i64 (chkS r xss)) ∧ Below w.heap.size w w' := by
  have hl := Lib.hid hh.out.1
  have hq0 : (((n : Int)) == 0) = false := by simp; omega
  have hq16 : ¬ (16 : Int) < (n : Int) := by omega
  have hn0' : (0 : Int) < (n : Int) := by omega
  have hqm : (100000 : Int) < (len0 xss : Int) := by omega
  obtain ⟨A', n', c', hadB, hcell, hn', hc', hi⟩ := (hh.out.below ((Below.refl B w).alloc hB (.cells #[.int .i64 r, .slice (some ad) n c] 24)) (Nat.le_refl _)).row hn0
  obtain rfl : n' = len0 xss := hi.1.symm
  rw [add_zero] at hcell
  clear hi hc'
  go_enter Tryd.func19, Tryd.ntmps19
  go_wp2_with (go_at_call 29; refine (RISRATE_eq _ _ hr _).mono ?_; rintro e w' ⟨rfl, rfl⟩)
  go_ret
  exact ⟨ret_int (chkS_big hr.out (by rw [hl.out]; omega) (.inr hm)).symm, (Below.refl _ _).alloc (Nat.le_refl _) _⟩

set_option maxHeartbeats 1600000 in
theorem RCHECK_rows (r : Int) (ad : Addr) (n c : Nat) (xss : List (List Int)) (hr : Hid (rateB r = true)) (hn0 : 0 < n) (hn : n ≤ 16) (hm : len0 xss ≤ 100000) (w : World) (B : Nat) (hB : B ≤ w.heap.size) (hh : Hid (RowsAt w B (some ad) n xss)) :
    Calls Tryd.prog 19 #[.agg #[.int .i64 r, .slice (some ad) n c]] w fun e w' => e = .returned (.int .i64 (chkS r xss)) ∧ Below w.heap.size w w' := by
  have hl := Lib.hid hh.out.1
  have hchk : Hid (chkS r xss = chkT (len0 xss) xss) := chkS_rows hr.out (by rw [hl.out]; exact hn0) (by rw [hl.out]; omega) hm
  have hq0 : (((n : Int)) == 0) = false := by simp; omega
  have hq16 : ¬ (16 : Int) < (n : Int) := by omega
  have hqm : ¬ (100000 : Int) < (len0 xss : Int) := by omega
  have hn0' : (0 : Int) < (n : Int) := by omega
  go_enter Tryd.func19, Tryd.ntmps19
  go_wp2_with fail
  refine calls_later (w.heap.size + 1) ?_
  intro W hW hsW
  obtain ⟨hcW, hfW⟩ := bcell hW
  simp only [World.size_alloc] at hsW
  have hbB : Below B w W := ((Below.refl B w).alloc hB _).trans (hW.mono (by omega))
  have hbW : Below w.heap.size w W := ((Below.refl _ w).alloc (Nat.le_refl _) _).trans (hW.mono (by omega))
  obtain ⟨A0, n0, c0, hadB, hcell0, hn0x, hc0x, hi0⟩ := (hh.out.below hbB (Nat.le_refl _)).row hn0
  obtain rfl : n0 = len0 xss := hi0.1.symm
  rw [add_zero] at hcell0
  clear hi0 hc0x
  go_wp2_with (go_at_call 29; refine (RISRATE_eq _ _ hr _).mono ?_; rintro e w' ⟨rfl, rfl⟩)
  go_loopw [3] (fun i wr => ∃ k : Nat, k ≤ n ∧ i = .int .i64 k ∧ Hid (chkT (len0 xss) (xss.drop k) = chkT (len0 xss) xss) ∧ Below (w.heap.size + 1) W wr) (fun i _ => n - (intOf i).toNat)
  case atStart => exact ⟨0, Nat.zero_le _, rfl, rfl, Below.refl _ _⟩
  case round =>
    obtain ⟨k, hk, rfl, HC, hb⟩ := hrel
    have hz := pcell hb
    by_cases hlt : k < n
    · obtain ⟨A', n', c', _, hcell, hn', hc', hi⟩ := (hh.out.below hbB (Nat.le_refl _)).row hlt
      have hil : Hid ((rowOf xss k).length = n') := hi.1
      have hi' := Lib.hid hi
      unfold maxLen at hc'
      have hkx : Hid (k < xss.length) := by show _ < _; have := hl.out; omega
      have hk0 : (0 : Int) ≤ (k : Int) := by omega
      have hkn : (k : Int) < (n : Int) := by omega
      have hadk : (ad.add k).block < w.heap.size + 1 := by rw [block_of_add]; omega
      have had0 : ad.block < w.heap.size + 1 := by omega
      clear hi
      by_cases hnl : n' = len0 xss
      · subst hnl
        go_wp2
        go_quiet (fail)
        clear hcell0 hz
        obtain ⟨wo, hwo⟩ : ∃ wo, wo = wr.drewN nq := ⟨_, rfl⟩
        have hbo : Below (w.heap.size + 1) W wo := by rw [hwo]; exact belowN hb _
        rw [← hwo]
        clear hwo hb
        go_wp2
        go_loopw [4] (fun i wi => ∃ j : Nat, j ≤ len0 xss ∧ i = .int .i64 j ∧ Hid (((rowOf xss k).take j).all smpB = true) ∧ Below (w.heap.size + 1) W wi) (fun i _ => len0 xss - (intOf i).toNat)
        case atStart => exact ⟨0, Nat.zero_le _, rfl, by simp [Hid], hbo⟩
        case round =>
          obtain ⟨j, hj, rfl, HA, hbi⟩ := hrel
          have hz := pcell hbi
          by_cases hjl : j < len0 xss
          · obtain ⟨ad', rfl⟩ := hi'.out.addr (by omega)
            obtain ⟨hB', hcell2⟩ := hi'.out.at_ hjl
            have hadj : (ad'.add j).block < w.heap.size + 1 := by rw [block_of_add]; omega
            have hj0 : (0 : Int) ≤ (j : Int) := by omega
            have hjn : (j : Int) < (len0 xss : Int) := by omega
            cases hs : smpB (elOf (rowOf xss k) j) with
            | true =>
              have HS := Lib.hid hs
              have hd1 : decide (elOf (rowOf xss k) j < -8388608) = false := by have := smpB_yes hs; simp; omega
              have hd2 : decide (8388607 < elOf (rowOf xss k) j) = false := by have := smpB_yes hs; simp; omega
              clear hs
              go_wp2
              go_roundw
              case rel => exact ⟨j + 1, by omega, by go_num, all_take HA.out (by rw [hil.out]; exact hjl) HS.out, hbi⟩
              case measure => simp [intOf]; omega
            | false =>
              have HS := Lib.hid hs
              have hfin : Hid (chkS r xss = 1) := by show _ = _; rw [hchk.out, ← HC.out, chkT_bad hkx.out hil.out (by rw [hil.out]; exact hjl) HS.out]
              by_cases hx : elOf (rowOf xss k) j < -8388608
              · have hd1 : decide (elOf (rowOf xss k) j < -8388608) = true := by simpa using hx
                clear hs hx
                go_wp2
                go_ret
                exact ⟨ret_int hfin.out.symm, hbW.trans (hbi.mono (by omega))⟩
              · have hd1 : decide (elOf (rowOf xss k) j < -8388608) = false := by simpa using hx
                have hd2 : decide (8388607 < elOf (rowOf xss k) j) = true := by have := smpB_no hs; simp; omega
                clear hs hx
                go_wp2
                go_ret
                exact ⟨ret_int hfin.out.symm, hbW.trans (hbi.mono (by omega))⟩
          · obtain rfl : j = len0 xss := by omega
            go_wp2
            go_roundw
            case rel => exact ⟨k + 1, by omega, by go_num, (chkT_step hkx.out hil.out (by have := HA.out; rwa [List.take_of_length_le (by rw [hil.out]; omega)] at this)).trans HC.out, hbi⟩
            case measure => simp [intOf]; omega
      · have hq : ((n' : Int) != (len0 xss : Int)) = true := by simp; omega
        go_wp2
        go_quiet (fail)
        go_wp2
        go_ret
        exact ⟨ret_int (by rw [hchk.out, ← HC.out, chkT_len hkx.out (by rw [hil.out]; exact hnl)]), hbW.trans (belowN (hb.mono (by omega)) _)⟩
    · obtain rfl : k = n := by omega
      go_wp2
      go_ret
      exact ⟨ret_int (by rw [hchk.out, ← HC.out, ← hl.out, List.drop_length]; rfl), hbW.trans (hb.mono (by omega))⟩
theorem RCHECK_any (r : Int) (A : Option Addr) (n c : Nat) (xss : List (List Int)) (w : World) (B : Nat) (hB : B ≤ w.heap.size) (h : RowsAt w B A n xss) :
    Calls Tryd.prog 19 #[.agg #[.int .i64 r, .slice A n c]] w fun e w' => e = .returned (.int .i64 (chkS r xss)) ∧ Below w.heap.size w w' := by
  cases hr : rateB r with
  | false => exact RCHECK_none r A n c xss hr w
  | true =>
    have hl := h.1
    by_cases hn : n = 0
    · subst hn; exact RCHECK_zero r A c xss hr hl w
    · obtain ⟨ad, rfl⟩ := h.addr (by omega)
      by_cases hn16 : 16 < n
      · exact RCHECK_many r _ n c xss hr hl hn16 w
      · by_cases hm : 100000 < len0 xss
        · exact RCHECK_long r ad n c xss hr (by omega) (by omega) hm w B hB h
        · exact RCHECK_rows r ad n c xss hr (by omega) (by omega) (by omega) w B hB h
end Go.Proofs.YtlnjildkdmeflaaDoor


/- Peak on both sides; awake. -/
set_option linter.unusedSimpArgs false
set_option linter.unusedVariables false
namespace Go.Proofs.YtlnjildkdmeflaaDoor
open Go.RowKit Go.Dw

set_option maxHeartbeats 800000 in
theorem PEAKU_ok (r : Int) (ad : Addr) (n c : Nat) (xss : List (List Int)) (hn : 0 < n) (hok : Hid (OkS r xss)) (w : World) (B : Nat) (hB : B ≤ w.heap.size) (hh : Hid (RowsAt w B (some ad) n xss)) :
    Calls Tryd.prog 44 #[.agg #[.int .i64 r, .slice (some ad) n c]] w fun e w' => e = .returned (.int .i64 (pkS 0 xss)) ∧ Below w.heap.size w w' := by
  have hl := Lib.hid hh.out.1
  have hn16 : n ≤ 16 := by have := hok.out.few; have := hl.out; omega
  go_enter Tryd.func44, Tryd.ntmps44
  go_wp2_with fail
  refine wp_later (w.heap.size + 1) ?_
  intro W hW hsW
  obtain ⟨hcW, hfW⟩ := bcell hW
  simp only [World.size_alloc] at hsW
  have hbB : Below B w W := ((Below.refl B w).alloc hB _).trans (hW.mono (by omega))
  have hbW : Below w.heap.size w W := ((Below.refl _ w).alloc (Nat.le_refl _) _).trans (hW.mono (by omega))
  go_wp2
  go_loop [3, 11] (fun t i => ∃ k : Nat, k ≤ n ∧ i = .int .i64 k ∧ t = .int .i64 (pkS 0 (xss.take k))) (fun _ i => n - (intOf i).toNat)
  case atStart => exact ⟨0, Nat.zero_le _, rfl, rfl⟩
  case round =>
    obtain ⟨k, hk, rfl, rfl⟩ := hrel
    by_cases hlt : k < n
    · have hkx : Hid (k < xss.length) := by show _ < _; have := hl.out; omega
      obtain ⟨A', n', c', hadB, hcell, hn', hc', hi⟩ := (hh.out.below hbB (Nat.le_refl _)).row hlt
      obtain rfl : n' = len0 xss := hi.1.symm.trans (hok.out.row hkx.out).1
      have hi' := Lib.hid hi
      clear hi
      unfold maxLen at hc'
      have hm := hok.out.long
      go_wp2
      go_loop [3, 17] (fun t i => ∃ j : Nat, j ≤ len0 xss ∧ i = .int .i64 j ∧ t = .int .i64 (pkRow (pkS 0 (xss.take k)) ((rowOf xss k).take j))) (fun _ i => len0 xss - (intOf i).toNat)
      case atStart => exact ⟨0, Nat.zero_le _, rfl, rfl⟩
      case round =>
        obtain ⟨j, hj, rfl, rfl⟩ := hrel
        by_cases hjl : j < len0 xss
        · obtain ⟨ad', rfl⟩ := hi'.out.addr (by omega)
          have hcell2 := (hi'.out.at_ hjl).2
          have hel := hok.out.el hkx.out hjl
          have hlo := hel.1
          have hhi := hel.2
          have hstep := Lib.hid (pkRow_take (m := pkS 0 (xss.take k)) (xs := rowOf xss k) (j := j) (by rw [(hok.out.row hkx.out).1]; exact hjl))
          clear hel
          go_wp2
          go_round
          case rel => exact ⟨j + 1, by omega, by go_num, val_int (by rw [hstep.out]; unfold absI; omega)⟩
          case measure => simp [intOf]; omega
        · obtain rfl : j = len0 xss := by omega
          go_wp2
          go_round
          case rel => exact ⟨k + 1, by omega, by go_num, by rw [pkS_take hkx.out, List.take_of_length_le (l := rowOf xss k) (by rw [(hok.out.row hkx.out).1]; omega)]⟩
          case measure => simp [intOf]; omega
    · obtain rfl : k = n := by omega
      go_wp2
      go_ret
      exact ⟨ret_int (by rw [List.take_of_length_le (by rw [hl.out]; omega)]), hbW⟩

theorem peakS_ok {r : Int} {xss : List (List Int)} (h : OkS r xss) : 0 < xss.length := h.some
/-- what Peak returns -/
def peakS (r : Int) (xss : List (List Int)) : Int × Int := if chkS r xss ≠ 0 then (0, chkS r xss) else (pkS 0 xss, 0)
set_option maxHeartbeats 400000 in
theorem PEAK_chk (r : Int) (A : Option Addr) (n c : Nat) (xss : List (List Int)) (hc : chkS r xss ≠ 0) (w : World) (B : Nat) (hB : B ≤ w.heap.size) (hh : Hid (RowsAt w B A n xss)) :
    Calls Tryd.prog 33 #[.agg #[.int .i64 r, .slice A n c]] w fun e w' => e = .returned (.tuple #[.int .i64 0, .int .i64 (chkS r xss)]) ∧ Below w.heap.size w w' := by
  have hq : (chkS r xss != 0) = true := by simpa using hc
  clear hc
  go_enter Tryd.func33, Tryd.ntmps33
  go_wp2_with fail
  refine calls_later (w.heap.size + 1) ?_
  intro W hW hsW
  obtain ⟨hcW, hfW⟩ := bcell hW
  simp only [World.size_alloc] at hsW
  have hbW : Below w.heap.size w W := ((Below.refl _ w).alloc (Nat.le_refl _) _).trans (hW.mono (by omega))
  go_wp2_with (go_at_call 13; refine (CHECK_any r A n c xss _ B (by omega) (hh.out.below hbW hB)).mono ?_; rintro e w1 ⟨rfl, hb1⟩; have hz1 := pcell (hb1.mono hsW))
  go_ret2
  exact ⟨rfl, hbW.trans (hb1.mono (by omega))⟩
set_option maxHeartbeats 400000 in
theorem PEAK_ok (r : Int) (ad : Addr) (n c : Nat) (xss : List (List Int)) (hn : 0 < n) (hc : Hid (chkS r xss = 0)) (w : World) (B : Nat) (hB : B ≤ w.heap.size) (hh : Hid (RowsAt w B (some ad) n xss)) :
    Calls Tryd.prog 33 #[.agg #[.int .i64 r, .slice (some ad) n c]] w fun e w' => e = .returned (.tuple #[.int .i64 (pkS 0 xss), .int .i64 0]) ∧ Below w.heap.size w w' := by
  have hq : (chkS r xss != 0) = false := by rw [hc.out]; rfl
  go_enter Tryd.func33, Tryd.ntmps33
  go_wp2_with fail
  refine calls_later (w.heap.size + 1) ?_
  intro W hW hsW
  obtain ⟨hcW, hfW⟩ := bcell hW
  simp only [World.size_alloc] at hsW
  have hbW : Below w.heap.size w W := ((Below.refl _ w).alloc (Nat.le_refl _) _).trans (hW.mono (by omega))
  go_wp2_with (go_at_call 13; refine (CHECK_any r (some ad) n c xss _ B (by omega) (hh.out.below hbW hB)).mono ?_; rintro e w1 ⟨rfl, hb1⟩; have hz1 := pcell (hb1.mono hsW); have hs1 := hb1.size)
  refine (PEAKU_ok r ad n c xss hn (chkS_ok hc.out) _ B (by omega) (hh.out.below (hbW.trans (hb1.mono (by omega))) hB)).mono ?_
  rintro e w2 ⟨rfl, hb2⟩
  go_wp2_with fail
  go_ret2
  exact ⟨rfl, hbW.trans ((hb1.trans (hb2.mono hs1)).mono (by omega))⟩
theorem PEAK_any (r : Int) (A : Option Addr) (n c : Nat) (xss : List (List Int)) (w : World) (B : Nat) (hB : B ≤ w.heap.size) (hh : RowsAt w B A n xss) :
    Calls Tryd.prog 33 #[.agg #[.int .i64 r, .slice A n c]] w fun e w' => e = .returned (.tuple #[.int .i64 (peakS r xss).1, .int .i64 (peakS r xss).2]) ∧ Below w.heap.size w w' := by
  unfold peakS
  by_cases hc : chkS r xss = 0
  · have hn : 0 < n := by have := (chkS_ok hc).some; have := hh.1; omega
    obtain ⟨ad, rfl⟩ := hh.addr hn
    rw [if_neg (by simp [hc])]
    exact PEAK_ok r ad n c xss hn hc w B hB hh
  · rw [if_pos hc]
    exact PEAK_chk r A n c xss hc w B hB hh

theorem awake_rows (w : World) : RowsAt ((w.alloc (.cells #[.int .i64 3, .int .i64 (-5), .int .i64 2] 3)).alloc (.cells #[.slice (some ⟨w.heap.size, 0, none⟩) 3 3] 40)) (w.heap.size + 2) (some ⟨w.heap.size + 1, 0, none⟩) 1 [[3, -5, 2]] := by
  refine ⟨rfl, by simp [maxLen], fun k hk => ?_⟩
  obtain rfl : k = 0 := by omega
  refine ⟨_, rfl, by simp, some ⟨w.heap.size, 0, none⟩, 3, 3, ?_, Nat.le_refl _, by simp [maxLen], rfl, fun j hj => ⟨_, rfl, by simp, ?_⟩⟩
  · simp [Addr.add, go_sem]
  · have h : j = 0 ∨ j = 1 ∨ j = 2 := by omega
    rcases h with rfl | rfl | rfl <;> simp [Addr.add, go_sem, elOf, rowOf]
set_option maxHeartbeats 400000 in
theorem AWAKE_any (w : World) : Calls Tryd.prog 12 #[] w fun e w' => e = .returned (.bool true) ∧ Below w.heap.size w w' := by
  go_enter Tryd.func12, Tryd.ntmps12
  go_wp2_with fail
  refine (PEAK_any 1 (some ⟨w.heap.size + 1, 0, none⟩) 1 1 [[3, -5, 2]] _ (w.heap.size + 2) (by simp) (awake_rows w)).mono ?_
  rintro e w1 ⟨rfl, hb1⟩
  have h1 : (peakS 1 [[3, -5, 2]]).1 = 5 := by decide
  have h2 : (peakS 1 [[3, -5, 2]]).2 = 0 := by decide
  rw [h1, h2]
  clear h1 h2
  go_wp2_with fail
  go_ret
  exact ⟨rfl, (((Below.refl _ _).alloc (Nat.le_refl _) _).alloc (by simp) _).trans (hb1.mono (by simp; omega))⟩
end Go.Proofs.YtlnjildkdmeflaaDoor

/- slices.Equal at []int; the law's same. -/
set_option linter.unusedSimpArgs false
set_option linter.unusedVariables false
namespace Go.Proofs.YtlnjildkdmeflaaDoor
open Go.RowKit Go.Dw

theorem eq_take {xs ys : List Int} {j : Nat} (h : xs.take j = ys.take j) (hx : j < xs.length) (hy : j < ys.length) (he : elOf xs j = elOf ys j) : xs.take (j + 1) = ys.take (j + 1) := by
  rw [List.take_succ_eq_append_getElem hx, List.take_succ_eq_append_getElem hy, h]
  simp only [elOf, List.getD, List.getElem?_eq_getElem hx, List.getElem?_eq_getElem hy, Option.getD_some] at he
  rw [he]
theorem el_ne {xs ys : List Int} {j : Nat} (he : elOf xs j ≠ elOf ys j) : xs ≠ ys := fun e => he (by rw [e])

set_option maxHeartbeats 400000 in
theorem EQINTS_len (A A' : Option Addr) (n c m c' : Nat) (hne : n ≠ m) (w : World) :
    Calls Tryd.prog 32 #[.slice A n c, .slice A' m c'] w fun e w' => e = .returned (.bool false) ∧ ∃ q, w' = w.drewN q := by
  have hq : ((n : Int) != (m : Int)) = true := by simp; omega
  go_enter Tryd.func32, Tryd.ntmps32
  go_wp2
  go_ret
  exact ⟨rfl, 0, rfl⟩

set_option maxHeartbeats 800000 in
theorem EQINTS_same (A A' : Option Addr) (n c c' : Nat) (xs ys : List Int) (w : World) (B : Nat) (hn : n ≤ 9223372036854775807) (hx : Hid (IntsAt w B A n xs)) (hy : Hid (IntsAt w B A' n ys)) :
    Calls Tryd.prog 32 #[.slice A n c, .slice A' n c'] w fun e w' => e = .returned (.bool (decide (xs = ys))) ∧ ∃ q, w' = w.drewN q := by
  have hxl := Lib.hid hx.out.1
  have hyl := Lib.hid hy.out.1
  go_enter Tryd.func32, Tryd.ntmps32
  go_wp2
  go_loopw [13] (fun i wr => ∃ j : Nat, j ≤ n ∧ i = .int .i64 j ∧ Hid (xs.take j = ys.take j) ∧ Hid (∃ q, wr = w.drewN q)) (fun i _ => n - (intOf i).toNat)
  case atStart => exact ⟨0, Nat.zero_le _, rfl, rfl, 0, rfl⟩
  case round =>
    obtain ⟨j, hj, rfl, HT, q, rfl⟩ := hrel
    by_cases hlt : j < n
    · obtain ⟨ad, rfl⟩ := hx.out.addr (by omega)
      obtain ⟨ad', rfl⟩ := hy.out.addr (by omega)
      have hc1 := (hx.out.at_ hlt).2
      have hc2 := (hy.out.at_ hlt).2
      have hj0 : (0 : Int) ≤ (j : Int) := by omega
      have hjn : (j : Int) < (n : Int) := by omega
      by_cases he : elOf xs j = elOf ys j
      · have hq : (elOf xs j != elOf ys j) = false := by simpa using he
        have HE := Lib.hid he
        clear he
        go_wp2
        go_quiet (fail)
        go_wp2
        go_roundw
        case rel => exact ⟨j + 1, by omega, by go_num, eq_take HT.out (by rw [hxl.out]; exact hlt) (by rw [hyl.out]; exact hlt) HE.out, _, rfl⟩
        case measure => simp [intOf]; omega
      · have hq : (elOf xs j != elOf ys j) = true := by simpa using he
        have HE := Lib.hid he
        clear he
        go_wp2
        go_quiet (fail)
        go_wp2
        go_ret
        exact ⟨ret_bool (by simp [el_ne HE.out]), _, World.drewN_drewN _ _ _⟩
    · obtain rfl : j = n := by omega
      go_wp2
      go_ret
      exact ⟨ret_bool (by have := HT.out; rw [List.take_of_length_le (by rw [hxl.out]; omega), List.take_of_length_le (by rw [hyl.out]; omega)] at this; simp [this]), _, rfl⟩

theorem EQINTS_any (A A' : Option Addr) (n c m c' : Nat) (xs ys : List Int) (w : World) (B : Nat) (hn : n ≤ 9223372036854775807) (hx : IntsAt w B A n xs) (hy : IntsAt w B A' m ys) :
    Calls Tryd.prog 32 #[.slice A n c, .slice A' m c'] w fun e w' => e = .returned (.bool (decide (xs = ys))) ∧ ∃ q, w' = w.drewN q := by
  by_cases h : n = m
  · subst h; exact EQINTS_same A A' n c c' xs ys w B hn hx hy
  · refine (EQINTS_len A A' n c m c' h w).mono fun e w' he => ⟨he.1.trans (ret_bool ?_), he.2⟩
    have : xs ≠ ys := fun e => h (by rw [← hx.1, ← hy.1, e])
    simp [this]

/-- what the law's same says -/
def sameS (r : Int) (xss : List (List Int)) (r' : Int) (yss : List (List Int)) : Bool := decide (r = r' ∧ xss = yss)
theorem rows_take {xss yss : List (List Int)} {k : Nat} (h : xss.take k = yss.take k) (hx : k < xss.length) (hy : k < yss.length) (he : rowOf xss k = rowOf yss k) : xss.take (k + 1) = yss.take (k + 1) := by
  rw [List.take_succ_eq_append_getElem hx, List.take_succ_eq_append_getElem hy, h]
  simp only [rowOf, List.getD, List.getElem?_eq_getElem hx, List.getElem?_eq_getElem hy, Option.getD_some] at he
  rw [he]

set_option maxHeartbeats 400000 in
theorem SAME_rate (r r' : Int) (A A' : Option Addr) (n c m c' : Nat) (xss yss : List (List Int)) (hne : r ≠ r') (w : World) :
    Calls Tryd.prog 10 #[.agg #[.int .i64 r, .slice A n c], .agg #[.int .i64 r', .slice A' m c']] w fun e w' => e = .returned (.bool (sameS r xss r' yss)) ∧ Below w.heap.size w w' := by
  have hq : (r != r') = true := by simpa using hne
  have HN := Lib.hid hne
  clear hne
  go_enter Tryd.func10, Tryd.ntmps10
  go_wp2
  go_ret
  exact ⟨ret_bool (by simp [sameS, HN.out]), ((Below.refl _ _).alloc (Nat.le_refl _) _).alloc (by simp) _⟩
set_option maxHeartbeats 400000 in
theorem SAME_many (r : Int) (A A' : Option Addr) (n c m c' : Nat) (xss yss : List (List Int)) (hne : n ≠ m) (hx : Hid (xss.length = n)) (hy : Hid (yss.length = m)) (w : World) :
    Calls Tryd.prog 10 #[.agg #[.int .i64 r, .slice A n c], .agg #[.int .i64 r, .slice A' m c']] w fun e w' => e = .returned (.bool (sameS r xss r yss)) ∧ Below w.heap.size w w' := by
  have hq0 : (r != r) = false := by simp
  have hq : ((n : Int) != (m : Int)) = true := by simp; omega
  go_enter Tryd.func10, Tryd.ntmps10
  go_wp2
  go_ret
  exact ⟨ret_bool (by have h : xss ≠ yss := fun e => hne (by rw [← hx.out, ← hy.out, e]); simp [sameS, h]), ((Below.refl _ _).alloc (Nat.le_refl _) _).alloc (by simp) _⟩
set_option maxHeartbeats 800000 in
theorem SAME_rows (r : Int) (A A' : Option Addr) (n c c' : Nat) (xss yss : List (List Int)) (w : World) (B : Nat) (hB : B ≤ w.heap.size) (hx : Hid (RowsAt w B A n xss)) (hy : Hid (RowsAt w B A' n yss)) :
    Calls Tryd.prog 10 #[.agg #[.int .i64 r, .slice A n c], .agg #[.int .i64 r, .slice A' n c']] w fun e w' => e = .returned (.bool (sameS r xss r yss)) ∧ Below w.heap.size w w' := by
  have hq0 : (r != r) = false := by simp
  have hq : ((n : Int) != (n : Int)) = false := by simp
  have hxl := Lib.hid hx.out.1
  have hyl := Lib.hid hy.out.1
  have hn63 : n ≤ 9223372036854775807 := by have := hx.out.2.1; unfold maxLen at this; omega
  go_enter Tryd.func10, Tryd.ntmps10
  go_wp2_with fail
  refine wp_later (w.heap.size + 2) ?_
  intro W hW hsW
  obtain ⟨hcW, hfW⟩ := bcell hW
  simp only [World.size_alloc] at hsW
  have hbB : Below B w W := (((Below.refl B w).alloc hB _).alloc (by simp; omega) _).trans (hW.mono (by omega))
  have hbW : Below w.heap.size w W := (((Below.refl _ w).alloc (Nat.le_refl _) _).alloc (by simp) _).trans (hW.mono (by omega))
  go_wp2
  go_loopw [5] (fun i wr => ∃ k : Nat, k ≤ n ∧ i = .int .i64 k ∧ Hid (xss.take k = yss.take k) ∧ Hid (Below (w.heap.size + 2) W wr)) (fun i _ => n - (intOf i).toNat)
  case atStart => exact ⟨0, Nat.zero_le _, rfl, rfl, Below.refl _ _⟩
  case round =>
    obtain ⟨k, hk, rfl, HT, hb⟩ := hrel
    have hz := pcell hb.out
    by_cases hlt : k < n
    · obtain ⟨ad, rfl⟩ := hx.out.addr (by omega)
      obtain ⟨ad', rfl⟩ := hy.out.addr (by omega)
      obtain ⟨A1, n1, c1, hb1, hc1, hn1, hm1, hi1⟩ := (hx.out.below hbB (Nat.le_refl _)).row hlt
      obtain ⟨A2, n2, c2, hb2, hc2, hn2, hm2, hi2⟩ := (hy.out.below hbB (Nat.le_refl _)).row hlt
      unfold maxLen at hm1 hm2
      have hi1' := Lib.hid hi1
      have hi2' := Lib.hid hi2
      clear hi1 hi2
      have hk0 : (0 : Int) ≤ (k : Int) := by omega
      have hkn : (k : Int) < (n : Int) := by omega
      have hadk : (ad.add k).block < w.heap.size + 2 := by rw [block_of_add]; omega
      have hadk' : (ad'.add k).block < w.heap.size + 2 := by rw [block_of_add]; omega
      by_cases he : rowOf xss k = rowOf yss k
      · have HE := Lib.hid he
        clear he
        go_wp2
        go_quiet ((go_at_call 32; exact Calls.quiet_of ((EQINTS_any A1 A2 n1 c1 n2 c2 (rowOf xss k) (rowOf yss k) _ B (by omega) ((hi1'.out.below hb.out (by omega)).below (belowN (Below.refl _ _) _) (Nat.le_refl _)) ((hi2'.out.below hb.out (by omega)).below (belowN (Below.refl _ _) _) (Nat.le_refl _))).mono fun e w' h => (⟨h.1.trans (ret_bool (by simp [HE.out])), h.2⟩ : e = .returned (.bool true) ∧ _))))
        go_wp2
        go_roundw
        case rel => exact ⟨k + 1, by omega, by go_num, rows_take HT.out (by rw [hxl.out]; exact hlt) (by rw [hyl.out]; exact hlt) HE.out, belowN hb.out _⟩
        case measure => simp [intOf]; omega
      · have HE := Lib.hid he
        clear he
        go_wp2
        go_quiet ((go_at_call 32; exact Calls.quiet_of ((EQINTS_any A1 A2 n1 c1 n2 c2 (rowOf xss k) (rowOf yss k) _ B (by omega) ((hi1'.out.below hb.out (by omega)).below (belowN (Below.refl _ _) _) (Nat.le_refl _)) ((hi2'.out.below hb.out (by omega)).below (belowN (Below.refl _ _) _) (Nat.le_refl _))).mono fun e w' h => (⟨h.1.trans (ret_bool (by simp [HE.out])), h.2⟩ : e = .returned (.bool false) ∧ _))))
        go_wp2
        go_ret
        exact ⟨ret_bool (by have h : xss ≠ yss := fun e => HE.out (by rw [e]); simp [sameS, h]), belowN (hbW.trans (hb.out.mono (by omega))) _⟩
    · obtain rfl : k = n := by omega
      go_wp2
      go_ret
      exact ⟨ret_bool (by have := HT.out; rw [List.take_of_length_le (by rw [hxl.out]; omega), List.take_of_length_le (by rw [hyl.out]; omega)] at this; simp [sameS, this]), hbW.trans (hb.out.mono (by omega))⟩

theorem SAME_any (r r' : Int) (A A' : Option Addr) (n c m c' : Nat) (xss yss : List (List Int)) (w : World) (B : Nat) (hB : B ≤ w.heap.size) (hx : RowsAt w B A n xss) (hy : RowsAt w B A' m yss) :
    Calls Tryd.prog 10 #[.agg #[.int .i64 r, .slice A n c], .agg #[.int .i64 r', .slice A' m c']] w fun e w' => e = .returned (.bool (sameS r xss r' yss)) ∧ Below w.heap.size w w' := by
  by_cases hr : r = r'
  · subst hr
    by_cases hn : n = m
    · subst hn; exact SAME_rows r A A' n c c' xss yss w B hB hx hy
    · exact SAME_many r A A' n c m c' xss yss hn hx.1 hy.1 w
  · exact SAME_rate r r' A A' n c m c' xss yss hr w
end Go.Proofs.YtlnjildkdmeflaaDoor
