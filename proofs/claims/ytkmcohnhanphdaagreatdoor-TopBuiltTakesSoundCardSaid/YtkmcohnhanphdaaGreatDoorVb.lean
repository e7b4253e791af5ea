/- Takes; match.checkTakes. -/
import Derived.Test.YtkmcohnhanphdaaGreatDoorVa
import Derived.Deep.QuietTactic
import Derived.Test.YtkmcohnhanphdaaGreatDoorWa
import Derived.Test.YtkmcohnhanphdaaGreatDoorWd
set_option linter.unusedSimpArgs false
set_option linter.unusedVariables false
namespace Go.Proofs.YtkmcohnhanphdaaGreatDoor
open Go.RowKit Go.Dw
structure Tk where
  media : ByteArray
  rate : Int
  chans : Int
  starts : List Int
def tk0 : Tk := ⟨⟨#[]⟩, 0, 0, []⟩
def tkOf (l : List Tk) (k : Nat) : Tk := l.getD k tk0
theorem take_tk {l : List Tk} {k : Nat} (hk : k < l.length) : l.take (k + 1) = l.take k ++ [tkOf l k] := by
  rw [List.take_succ_eq_append_getElem hk]; simp [tkOf, List.getD, List.getElem?_eq_getElem hk]
theorem tk_mem {l : List Tk} {k : Nat} (hk : k < l.length) : tkOf l k ∈ l := by simp [tkOf, List.getD, List.getElem?_eq_getElem hk]
theorem take_el {l : List Int} {k : Nat} (hk : k < l.length) : l.take (k + 1) = l.take k ++ [elOf l k] := by
  rw [List.take_succ_eq_append_getElem hk]; simp [elOf, List.getD, List.getElem?_eq_getElem hk]
/-- a row of takes that lies below block B -/
def TakesAt (w : World) (B : Nat) (A : Option Addr) (n : Nat) (l : List Tk) : Prop :=
  l.length = n ∧ ∀ k, k < n → ∃ b o A' n' c', A = some ⟨b, o, none⟩ ∧ b < B ∧ (w.cell? ⟨b, o + k * 4, none⟩ = some (.string (tkOf l k).media) ∧ w.cell? ⟨b, o + k * 4 + 1, none⟩ = some (.int .i64 (tkOf l k).rate) ∧ w.cell? ⟨b, o + k * 4 + 2, none⟩ = some (.int .i64 (tkOf l k).chans) ∧ w.cell? ⟨b, o + k * 4 + 3, none⟩ = some (.slice A' n' c')) ∧ n' ≤ c' ∧ c' ≤ maxLen ∧ IntsAt w B A' n' (tkOf l k).starts
theorem TakesAt.below {w w' : World} {B B' : Nat} {A : Option Addr} {n : Nat} {l : List Tk} (h : TakesAt w B A n l) (hb : Below B' w w') (hB : B ≤ B') : TakesAt w' B A n l :=
  ⟨h.1, fun k hk => by
    obtain ⟨b, o, A', n', c', e, h1, ⟨k0, k1, k2, k3⟩, h3, h4, h5⟩ := h.2 k hk
    have hbB : b < B' := by omega
    exact ⟨b, o, A', n', c', e, h1, ⟨(hb.cell (p := ⟨b, o + k * 4, none⟩) hbB).trans k0, (hb.cell (p := ⟨b, o + k * 4 + 1, none⟩) hbB).trans k1, (hb.cell (p := ⟨b, o + k * 4 + 2, none⟩) hbB).trans k2, (hb.cell (p := ⟨b, o + k * 4 + 3, none⟩) hbB).trans k3⟩, h3, h4, h5.below (hb.mono hB) (Nat.le_refl _)⟩⟩
theorem TakesAt.nil (w : World) (B : Nat) (A : Option Addr) : TakesAt w B A 0 [] := ⟨rfl, fun k hk => by omega⟩
def startsOk (m : Nat) (t : Tk) : Prop := t.starts.length = m ∧ (∀ x ∈ t.starts, 0 ≤ x ∧ x ≤ 9999999900000) ∧ 1 ≤ t.chans ∧ t.chans ≤ 16
structure TakesOk (l : List Tk) (lens takes : List Int) : Prop where
  some_ : 0 < l.length
  few : l.length ≤ 20
  starts : ∀ t ∈ l, startsOk lens.length t
  short : lens.length ≤ 60
  same : takes.length = lens.length
  long : ∀ n ∈ lens, 1 ≤ n ∧ n ≤ 100000
  right : ∀ t ∈ takes, 0 ≤ t ∧ t < l.length
theorem four_cells {w : World} {g : Nat} {v0 v1 v2 v3 : Value} {T : TypeId} (h : w.heap[g]? = some (.cells #[v0, v1, v2, v3] T (0, 0))) :
    w.cell? ⟨g, 0, none⟩ = some v0 ∧ w.cell? ⟨g, 1, none⟩ = some v1 ∧ w.cell? ⟨g, 2, none⟩ = some v2 ∧ w.cell? ⟨g, 3, none⟩ = some v3 := by
  refine ⟨?_, ?_, ?_, ?_⟩
  · rw [own_cell1 h 0]; rfl
  · rw [own_cell1 h 1]; rfl
  · rw [own_cell1 h 2]; rfl
  · rw [own_cell1 h 3]; rfl
set_option maxRecDepth 100000 in
set_option maxHeartbeats 8000000 in
theorem CHECKTAKES_any (A A1 A2 : Option Addr) (n n1 n2 cap cap1 cap2 : Nat) (l : List Tk) (lens takes : List Int) (hz : Hid (∀ t ∈ l, t.media.size ≤ maxLen)) (w : World) (B : Nat) (hB : B ≤ w.heap.size) (hh : Hid (TakesAt w B A n l)) (h1 : Hid (IntsAt w B A1 n1 lens)) (h2 : Hid (IntsAt w B A2 n2 takes)) :
    Calls Tryz.prog 34 #[.slice A n cap, .slice A1 n1 cap1, .slice A2 n2 cap2] w fun e w' => ∃ f : Int, e = .returned (.int .i64 f) ∧ Below w.heap.size w w' ∧ (f = 0 → TakesOk l lens takes) := by
  have hl := Lib.hid hh.out.1
  have hl1 := Lib.hid h1.out.1
  have hl2 := Lib.hid h2.out.1
  have HBR : Hid (Below w.heap.size w w) := Below.refl _ _
  by_cases h0 : n = 0
  · have d0 : ((n : Int) == 0) = true := by simp; omega
    go_enter Tryz.func34, Tryz.ntmps34
    go_wp2_with fail
    go_ret
    exact ⟨_, rfl, HBR.out, by intro h; cases h⟩
  have d0 : ((n : Int) == 0) = false := by simp; omega
  by_cases h20 : 20 < n
  · have d20 : decide ((20 : Int) < (n : Int)) = true := by simp; omega
    clear h0 h20
    go_enter Tryz.func34, Tryz.ntmps34
    go_wp2_with fail
    go_ret
    exact ⟨_, rfl, HBR.out, by intro h; cases h⟩
  have d20 : decide ((20 : Int) < (n : Int)) = false := by simp; omega
  have hn1 : 0 < n := by omega
  have hn20 : n ≤ 20 := by omega
  clear h0 h20 HBR
  go_enter Tryz.func34, Tryz.ntmps34
  go_wp2_with fail
  clear d0 d20
  go_loopw [23] (fun i wr => ∃ k : Nat, k ≤ n ∧ i = .int .i64 k ∧ Hid (∀ t ∈ l.take k, startsOk n1 t) ∧ Hid (Below w.heap.size w wr)) (fun i _ => n - (intOf i).toNat)
  case atStart => exact ⟨0, Nat.zero_le _, rfl, (by intro t ht; simp at ht), Below.refl _ _⟩
  case round =>
    obtain ⟨k, hk, rfl, HS, HB⟩ := hrel
    have hsz := HB.out.size
    by_cases hlt : k < n
    · have hk0 : (0 : Int) ≤ (k : Int) := by omega
      have hkn : (k : Int) < (n : Int) := by omega
      obtain ⟨b, o, A', n', c', e, hb, ⟨k0, k1, k2, k3⟩, hn', hc', hi⟩ := (hh.out.below (HB.out.mono hB) (Nat.le_refl _)).2 k hlt
      obtain ⟨b9, o9, _, _, _, e9, _, ⟨_, j1, j2, _⟩, _⟩ := (hh.out.below (HB.out.mono hB) (Nat.le_refl _)).2 0 hn1
      rw [e] at e9
      cases e9
      subst e
      rw [Nat.zero_mul, Nat.add_zero] at j1 j2
      have HZ := hz.out _ (tk_mem (by rw [hl.out]; exact hlt))
      have HTK := Lib.hid (take_tk (l := l) (k := k) (by rw [hl.out]; exact hlt))
      obtain ⟨t, ht⟩ : ∃ t, tkOf l k = t := ⟨_, rfl⟩
      obtain ⟨t0, ht0⟩ : ∃ t, tkOf l 0 = t := ⟨_, rfl⟩
      rw [ht] at k0 k1 k2 HZ hi HTK
      rw [ht0] at j1 j2
      have HI := Lib.hid hi
      clear ht ht0 hi
      go_upto_region 8 with (fail)
      obtain ⟨X, g4, hX, hg4, HX, HBX, HSX⟩ := cell_new wr 47 #[.string t.media, .int .i64 t.rate, .int .i64 t.chans, .slice A' n' c']
      rw [← hX, ← hg4]
      have HBR := Lib.hid (HB.out.trans (HBX.out.mono hsz))
      obtain ⟨x0, x1, x2, x3⟩ := four_cells HX.out
      have hg4X := blk_lt HX.out
      have hb4 : b < wr.heap.size := by omega
      have y1 := (HBX.out.cell (p := ⟨b, o + 1, none⟩) hb4).trans j1
      have y2 := (HBX.out.cell (p := ⟨b, o + 2, none⟩) hb4).trans j2
      have HIX : Hid (IntsAt X B A' n' t.starts) := HI.out.below HBX.out (by omega)
      clear hX hg4 HSX k0 k1 k2 k3 j1 j2 HI
      have hz1 : t.media.size ≤ 9223372036854775807 := by unfold maxLen at HZ; omega
      go_wp2_with fail
      refine (SISNAME_any t.media hz1 X).mono ?_
      rintro e w1 ⟨rfl, hb1⟩
      have q1 := (hb1.cell (p := ⟨g4, 1, none⟩) hg4X).trans x1
      have q2 := (hb1.cell (p := ⟨g4, 2, none⟩) hg4X).trans x2
      have q3 := (hb1.cell (p := ⟨g4, 3, none⟩) hg4X).trans x3
      have hbX : b < X.heap.size := Nat.lt_of_lt_of_le hb4 HBX.out.size
      have y1 := (hb1.cell (p := ⟨b, o + 1, none⟩) hbX).trans y1
      have y2 := (hb1.cell (p := ⟨b, o + 2, none⟩) hbX).trans y2
      have hBX : B ≤ X.heap.size := by have := HBX.out.size; omega
      have HIX : Hid (IntsAt w1 B A' n' t.starts) := HIX.out.below hb1 hBX
      have HBR := Lib.hid (HBR.out.trans (hb1.mono HBR.out.size))
      have hsz1 := HBR.out.size
      clear hb1 x0 x1 x2 x3 HX HBX HZ hz1
      obtain ⟨nm, hnm⟩ : ∃ nm, nameN t.media.data.toList = nm := ⟨_, rfl⟩
      rw [hnm]
      clear hnm
      cases nm with
      | false =>
        go_wp2_with fail
        go_ret
        exact ⟨_, rfl, HBR.out, by intro h; cases h⟩
      | true =>
      obtain ⟨br, hbr⟩ : ∃ br, rateB t.rate = br := ⟨_, rfl⟩
      cases br with
      | false =>
        go_wp2_with (go_at_call 39; refine (ISRATE_eq _ _ hbr _).mono ?_; rintro e w' ⟨rfl, rfl⟩)
        go_ret
        exact ⟨_, rfl, HBR.out, by intro h; cases h⟩
      | true =>
      by_cases h1 : t.chans < 1
      · go_wp2_with (go_at_call 39; refine (ISRATE_eq _ _ hbr _).mono ?_; rintro e w' ⟨rfl, rfl⟩)
        go_ret
        exact ⟨_, rfl, HBR.out, by intro h; cases h⟩
      by_cases h2 : 16 < t.chans
      · go_wp2_with (go_at_call 39; refine (ISRATE_eq _ _ hbr _).mono ?_; rintro e w' ⟨rfl, rfl⟩)
        go_ret
        exact ⟨_, rfl, HBR.out, by intro h; cases h⟩
      have d1 : decide (t.chans < 1) = false := by simp; omega
      have d2 : decide (16 < t.chans) = false := by simp; omega
      have HCH := Lib.hid (show 1 ≤ t.chans ∧ t.chans ≤ 16 by omega)
      clear h1 h2
      go_upto_region 12 with (go_at_call 39; refine (ISRATE_eq _ _ hbr _).mono ?_; rintro e w' ⟨rfl, rfl⟩)
      clear d1 d2 hbr
      by_cases hr : t.rate = t0.rate
      case neg =>
        have d1 : (t.rate != t0.rate) = true := by simpa using hr
        clear hr
        go_quiet (fail)
        obtain ⟨Y, hY⟩ : ∃ Y, Y = w1.drewN nq := ⟨_, rfl⟩
        have HBR : Hid (Below w.heap.size w Y) := by rw [hY]; exact belowN HBR.out _
        have q3 : Y.cell? ⟨g4, 3, none⟩ = some (.slice A' n' c') := by rw [hY]; exact q3
        have HIX : Hid (IntsAt Y B A' n' t.starts) := by rw [hY]; exact HIX.out.below (belowN (Below.refl B _) _) (Nat.le_refl _)
        rw [← hY]
        clear hY q1 q2 y1 y2
        go_wp2_with fail
        go_ret
        exact ⟨_, rfl, HBR.out, by intro h; cases h⟩
      have d1 : (t.rate != t0.rate) = false := by simpa using hr
      clear hr
      by_cases hr : t.chans = t0.chans
      case neg =>
        have d2 : (t.chans != t0.chans) = true := by simpa using hr
        clear hr
        go_quiet (fail)
        obtain ⟨Y, hY⟩ : ∃ Y, Y = w1.drewN nq := ⟨_, rfl⟩
        have HBR : Hid (Below w.heap.size w Y) := by rw [hY]; exact belowN HBR.out _
        have q3 : Y.cell? ⟨g4, 3, none⟩ = some (.slice A' n' c') := by rw [hY]; exact q3
        have HIX : Hid (IntsAt Y B A' n' t.starts) := by rw [hY]; exact HIX.out.below (belowN (Below.refl B _) _) (Nat.le_refl _)
        rw [← hY]
        clear hY q1 q2 y1 y2
        go_wp2_with fail
        go_ret
        exact ⟨_, rfl, HBR.out, by intro h; cases h⟩
      have d2 : (t.chans != t0.chans) = false := by simpa using hr
      clear hr
      go_quiet (fail)
      obtain ⟨Y, hY⟩ : ∃ Y, Y = w1.drewN nq := ⟨_, rfl⟩
      have HBR : Hid (Below w.heap.size w Y) := by rw [hY]; exact belowN HBR.out _
      have q3 : Y.cell? ⟨g4, 3, none⟩ = some (.slice A' n' c') := by rw [hY]; exact q3
      have HIX : Hid (IntsAt Y B A' n' t.starts) := by rw [hY]; exact HIX.out.below (belowN (Below.refl B _) _) (Nat.le_refl _)
      rw [← hY]
      clear hY q1 q2 y1 y2
      by_cases hln : n' = n1
      case neg =>
        have d3 : ((n' : Int) != (n1 : Int)) = true := by simp; omega
        clear hln
        go_wp2_with fail
        go_ret
        exact ⟨_, rfl, HBR.out, by intro h; cases h⟩
      subst hln
      have d3 : ((n' : Int) != (n' : Int)) = false := by simp
      go_wp2_with fail
      clear d1 d2 d3 q3
      have hn63 : n' ≤ 9223372036854775807 := by unfold maxLen at hc'; omega
      go_loop [74] (fun i => ∃ j : Nat, j ≤ n' ∧ i = .int .i64 j ∧ Hid (∀ x ∈ t.starts.take j, 0 ≤ x ∧ x ≤ 9999999900000)) (fun i => n' - (intOf i).toNat)
      case atStart => exact ⟨0, Nat.zero_le _, rfl, (by intro x hx; simp at hx)⟩
      case round =>
        obtain ⟨j, hj, rfl, HJ⟩ := hrel
        by_cases hjl : j < n'
        · obtain ⟨ad, rfl, hbd, hc⟩ := HIX.out.2 j hjl
          have HTE := Lib.hid (take_el (l := t.starts) (k := j) (by rw [HIX.out.1]; exact hjl))
          obtain ⟨x, hx⟩ : ∃ x, elOf t.starts j = x := ⟨_, rfl⟩
          rw [hx] at hc HTE
          clear hx
          have hj0 : (0 : Int) ≤ (j : Int) := by omega
          have hjn : (j : Int) < (n' : Int) := by omega
          by_cases hx0 : x < 0
          · go_wp2_with fail
            go_ret
            exact ⟨_, rfl, HBR.out, by intro h; cases h⟩
          have d4 : decide (x < 0) = false := by simp; omega
          by_cases hx1 : 9999999900000 < x
          · clear hx0
            go_wp2_with fail
            go_ret
            exact ⟨_, rfl, HBR.out, by intro h; cases h⟩
          have d5 : decide (9999999900000 < x) = false := by simp; omega
          have HJ2 : Hid (∀ y ∈ t.starts.take (j + 1), 0 ≤ y ∧ y ≤ 9999999900000) := by
            intro y hy
            rw [HTE.out] at hy
            rcases List.mem_append.1 hy with hy | hy
            · exact HJ.out y hy
            · rw [List.mem_singleton.1 hy]; omega
          clear hx0 hx1
          go_wp2_with fail
          go_round
          case rel => exact ⟨j + 1, by omega, by go_num, HJ2⟩
          case measure => simp [intOf]; omega
        · obtain rfl : j = n' := by omega
          have HS2 : Hid (∀ t ∈ l.take (k + 1), startsOk j t) := by
            intro y hy
            rw [HTK.out] at hy
            rcases List.mem_append.1 hy with hy | hy
            · exact HS.out y hy
            · rw [List.mem_singleton.1 hy]
              refine ⟨HIX.out.1, fun z hz => HJ.out z ?_, HCH.out⟩
              rw [List.take_of_length_le (by rw [HIX.out.1]; exact Nat.le_refl _)]
              exact hz
          go_wp2_with fail
          go_roundw
          case rel => exact ⟨k + 1, by omega, by go_num, HS2, HBR⟩
          case measure => simp [intOf]; omega
    · obtain rfl : k = n := by omega
      have HST : Hid (∀ t ∈ l, startsOk n1 t) := by
        intro t ht
        refine HS.out t ?_
        rw [List.take_of_length_le (by rw [hl.out]; exact Nat.le_refl _)]
        exact ht
      have HBR := HB
      have HI1 : Hid (IntsAt wr B A1 n1 lens) := h1.out.below HB.out hB
      have HI2 : Hid (IntsAt wr B A2 n2 takes) := h2.out.below HB.out hB
      by_cases h60 : 60 < n1
      · have d6 : decide ((60 : Int) < (n1 : Int)) = true := by simp; omega
        clear h60
        go_wp2_with fail
        go_ret
        exact ⟨_, rfl, HBR.out, by intro h; cases h⟩
      have d6 : decide ((60 : Int) < (n1 : Int)) = false := by simp; omega
      have hn60 : n1 ≤ 60 := by omega
      clear h60
      go_wp2_with fail
      clear d6
      go_loop [91] (fun i => ∃ j : Nat, j ≤ n1 ∧ i = .int .i64 j ∧ Hid (∀ x ∈ lens.take j, 1 ≤ x ∧ x ≤ 100000)) (fun i => n1 - (intOf i).toNat)
      case atStart => exact ⟨0, Nat.zero_le _, rfl, (by intro x hx; simp at hx)⟩
      case round =>
        obtain ⟨j, hj, rfl, HJ⟩ := hrel
        by_cases hjl : j < n1
        · obtain ⟨ad, rfl, hbd, hc⟩ := HI1.out.2 j hjl
          have HTE := Lib.hid (take_el (l := lens) (k := j) (by rw [hl1.out]; exact hjl))
          obtain ⟨x, hx⟩ : ∃ x, elOf lens j = x := ⟨_, rfl⟩
          rw [hx] at hc HTE
          clear hx
          have hj0 : (0 : Int) ≤ (j : Int) := by omega
          have hjn : (j : Int) < (n1 : Int) := by omega
          by_cases hx0 : x < 1
          · go_wp2_with fail
            go_ret
            exact ⟨_, rfl, HBR.out, by intro h; cases h⟩
          have d4 : decide (x < 1) = false := by simp; omega
          by_cases hx1 : 100000 < x
          · clear hx0
            go_wp2_with fail
            go_ret
            exact ⟨_, rfl, HBR.out, by intro h; cases h⟩
          have d5 : decide (100000 < x) = false := by simp; omega
          have HJ2 : Hid (∀ y ∈ lens.take (j + 1), 1 ≤ y ∧ y ≤ 100000) := by
            intro y hy
            rw [HTE.out] at hy
            rcases List.mem_append.1 hy with hy | hy
            · exact HJ.out y hy
            · rw [List.mem_singleton.1 hy]; omega
          clear hx0 hx1
          go_wp2_with fail
          go_round
          case rel => exact ⟨j + 1, by omega, by go_num, HJ2⟩
          case measure => simp [intOf]; omega
        · obtain rfl : j = n1 := by omega
          have HLN : Hid (∀ x ∈ lens, 1 ≤ x ∧ x ≤ 100000) := by
            intro x hx
            refine HJ.out x ?_
            rw [List.take_of_length_le (by rw [hl1.out]; exact Nat.le_refl _)]
            exact hx
          by_cases hsm : n2 = j
          case neg =>
            have d7 : ((n2 : Int) != (j : Int)) = true := by simp; omega
            clear hsm
            go_wp2_with fail
            go_ret
            exact ⟨_, rfl, HBR.out, by intro h; cases h⟩
          subst hsm
          have d7 : ((n2 : Int) != (n2 : Int)) = false := by simp
          go_wp2_with fail
          clear d7
          go_loop [109] (fun i => ∃ m : Nat, m ≤ n2 ∧ i = .int .i64 m ∧ Hid (∀ x ∈ takes.take m, 0 ≤ x ∧ x < l.length)) (fun i => n2 - (intOf i).toNat)
          case atStart => exact ⟨0, Nat.zero_le _, rfl, (by intro x hx; simp at hx)⟩
          case round =>
            obtain ⟨m, hm, rfl, HM⟩ := hrel
            by_cases hml : m < n2
            · obtain ⟨ad, rfl, hbd, hc⟩ := HI2.out.2 m hml
              have HTE := Lib.hid (take_el (l := takes) (k := m) (by rw [hl2.out]; exact hml))
              obtain ⟨x, hx⟩ : ∃ x, elOf takes m = x := ⟨_, rfl⟩
              rw [hx] at hc HTE
              clear hx
              have hj0 : (0 : Int) ≤ (m : Int) := by omega
              have hjn : (m : Int) < (n2 : Int) := by omega
              by_cases hx0 : x < 0
              · go_wp2_with fail
                go_ret
                exact ⟨_, rfl, HBR.out, by intro h; cases h⟩
              have d4 : decide (x < 0) = false := by simp; omega
              by_cases hx1 : (k : Int) ≤ x
              · clear hx0
                go_wp2_with fail
                go_ret
                exact ⟨_, rfl, HBR.out, by intro h; cases h⟩
              have d5 : decide ((k : Int) ≤ x) = false := by simp; omega
              have HM2 : Hid (∀ y ∈ takes.take (m + 1), 0 ≤ y ∧ y < l.length) := by
                intro y hy
                rw [HTE.out] at hy
                rcases List.mem_append.1 hy with hy | hy
                · exact HM.out y hy
                · rw [List.mem_singleton.1 hy, hl.out]; omega
              clear hx0 hx1
              go_wp2_with fail
              go_round
              case rel => exact ⟨m + 1, by omega, by go_num, HM2⟩
              case measure => simp [intOf]; omega
            · obtain rfl : m = n2 := by omega
              go_wp2_with fail
              go_ret
              refine ⟨_, rfl, HBR.out, fun _ => ⟨by rw [hl.out]; omega, by rw [hl.out]; omega, by rw [hl1.out]; exact HST.out, by rw [hl1.out]; exact hn60, by rw [hl1.out, hl2.out], HLN.out, fun x hx => HM.out x ?_⟩⟩
              rw [List.take_of_length_le (by rw [hl2.out]; exact Nat.le_refl _)]
              exact hx
end Go.Proofs.YtkmcohnhanphdaaGreatDoor

/- What is rendered, in plain words: factors, sums, samples. -/
set_option linter.unusedSimpArgs false
set_option linter.unusedVariables false
namespace Go.Proofs.YtkmcohnhanphdaaGreatDoor
open Go.RowKit Go.Dw
/-- a medium -/
structure Md where
  name : ByteArray
  rate : Int
  xss : List (List Int)
def md0 : Md := ⟨⟨#[]⟩, 0, []⟩
def mdOf (l : List Md) (k : Nat) : Md := l.getD k md0
theorem md_mem {l : List Md} {k : Nat} (hk : k < l.length) : mdOf l k ∈ l := by simp [mdOf, List.getD, List.getElem?_eq_getElem hk]
theorem take_md {l : List Md} {k : Nat} (hk : k < l.length) : l.take (k + 1) = l.take k ++ [mdOf l k] := by
  rw [List.take_succ_eq_append_getElem hk]; simp [mdOf, List.getD, List.getElem?_eq_getElem hk]
def findM (l : List Md) (s : ByteArray) : Option Md := l.find? (fun m => decide (m.name = s))
def sndOf (l : List Md) (s : ByteArray) : List (List Int) := match findM l s with
  | some m => m.xss
  | none => []
def trackOf (l : List Md) (s : ByteArray) (ch : Int) : List Int := rowOf (sndOf l s) ch.toNat
def ptV (p : Pt) : Rat := valQ p.num p.den
/-- how many points lie before a sample -/
def envK (l : List Pt) (i : Int) : Nat := l.countP (fun p => decide (p.at_ < i))
def envV (l : List Pt) (i : Int) : Rat :=
  if envK l i < l.length ∧ (ptOf l (envK l i)).at_ = i then ptV (ptOf l (envK l i))
  else if envK l i = 0 then ptV (ptOf l 0)
  else if envK l i = l.length then ptV (ptOf l (envK l i - 1))
  else ptV (ptOf l (envK l i - 1)) + (ptV (ptOf l (envK l i)) - ptV (ptOf l (envK l i - 1))) * (((i - (ptOf l (envK l i - 1)).at_ : Int) : Rat) / (((ptOf l (envK l i)).at_ - (ptOf l (envK l i - 1)).at_ : Int) : Rat))
/-- what a clip adds at a position of a track -/
def conC (l : List Md) (t p : Int) (c : Cp) : Rat :=
  if c.track = t ∧ c.at_ ≤ p ∧ p < c.at_ + c.len ∧ c.from_ + (p - c.at_) < ((trackOf l c.media c.chan).length : Int) then envV c.env (p - c.at_) * ((elOf (trackOf l c.media c.chan) (c.from_ + (p - c.at_)).toNat : Int) : Rat) else 0
def mixC (l : List Md) (t p : Int) : List Cp → Rat
  | [] => 0
  | c :: r => conC l t p c + mixC l t p r
theorem mixC_append (l : List Md) (t p : Int) : ∀ (a b : List Cp), mixC l t p (a ++ b) = mixC l t p a + mixC l t p b
  | [], b => by show _ = 0 + _; rw [Rat.zero_add]; rfl
  | c :: a, b => by
    show conC l t p c + mixC l t p (a ++ b) = conC l t p c + mixC l t p a + mixC l t p b
    rw [mixC_append l t p a b, Rat.add_assoc]
theorem mixC_take {l : List Md} {t p : Int} {cs : List Cp} {k : Nat} (hk : k < cs.length) : mixC l t p (cs.take (k + 1)) = mixC l t p (cs.take k) + conC l t p (cpOf cs k) := by
  rw [take_cp hk, mixC_append]
  show _ + (conC l t p (cpOf cs k) + 0) = _
  rw [Rat.add_zero]
def endC (cs : List Cp) : Int := cs.foldl (fun n c => max n (c.at_ + c.len)) 0
theorem endC_take {cs : List Cp} {k : Nat} (hk : k < cs.length) : endC (cs.take (k + 1)) = max (endC (cs.take k)) ((cpOf cs k).at_ + (cpOf cs k).len) := by
  rw [take_cp hk]; unfold endC; rw [List.foldl_append]; rfl
theorem endC_ge : ∀ (cs : List Cp) (n : Int), n ≤ cs.foldl (fun n c => max n (c.at_ + c.len)) n
  | [], n => Int.le_refl _
  | c :: cs, n => Int.le_trans (by omega) (endC_ge cs (max n (c.at_ + c.len)))
theorem endC_nn (cs : List Cp) : 0 ≤ endC cs := endC_ge cs 0
theorem endC_take_le (cs : List Cp) (k : Nat) : endC (cs.take k) ≤ endC cs := by
  have h : cs.foldl (fun n c => max n (c.at_ + c.len)) 0 = (cs.drop k).foldl (fun n c => max n (c.at_ + c.len)) (endC (cs.take k)) := by
    unfold endC
    rw [← List.foldl_append, List.take_append_drop]
  show _ ≤ cs.foldl (fun n c => max n (c.at_ + c.len)) 0
  rw [h]
  exact endC_ge _ _
theorem endC_mem {cs : List Cp} {k : Nat} (hk : k < cs.length) : (cpOf cs k).at_ + (cpOf cs k).len ≤ endC cs := by
  have h1 := endC_take hk
  have h2 := endC_take_le cs (k + 1)
  omega
/-- a track as it is rendered -/
def renT (l : List Md) (cs : List Cp) (t : Int) : List Int := (List.range (endC cs).toNat).map fun p : Nat => clipV (nearQ (mixC l t p cs))
def renN1 (l : List Md) (cs : List Cp) (t : Int) : Int := ((List.range (endC cs).toNat).map fun p : Nat => clipN (nearQ (mixC l t p cs))).sum
def renS (l : List Md) (cs : List Cp) (tracks : Nat) : List (List Int) := (List.range tracks).map fun t : Nat => renT l cs t
def renN (l : List Md) (cs : List Cp) (tracks : Nat) : Int := ((List.range tracks).map fun t : Nat => renN1 l cs t).sum
/-- media that an edit can be rendered with -/
structure MediaOk (rate : Int) (l : List Md) (cs : List Cp) : Prop where
  few : l.length ≤ 100
  apart : ∀ i j, i < j → j < l.length → (mdOf l i).name ≠ (mdOf l j).name
  right : ∀ m ∈ l, m.rate = rate ∧ chkS rate m.xss = 0
  there : ∀ c ∈ cs, ∃ m ∈ l, m.name = c.media ∧ c.chan < (m.xss.length : Int)
theorem nearQ_int (x : Int) : nearQ (x : Rat) = x := by
  unfold nearQ
  show (if x < 0 then -(((x.natAbs * 2 + 1) / (1 * 2) : Nat) : Int) else (((x.natAbs * 2 + 1) / (1 * 2) : Nat) : Int)) = x
  split <;> omega
theorem clipV_in {x : Int} (h : smpB x = true) : clipV x = x ∧ clipN x = 0 := by
  obtain ⟨h1, h2⟩ := smpB_yes h
  unfold clipV clipN
  rw [if_neg (by omega), if_neg (by omega), if_neg (by omega), if_neg (by omega)]
  exact ⟨rfl, rfl⟩
end Go.Proofs.YtkmcohnhanphdaaGreatDoor

/- What is built of takes without fades sounds as their pieces: plain. -/
set_option linter.unusedSimpArgs false
set_option linter.unusedVariables false
namespace Go.Proofs.YtkmcohnhanphdaaGreatDoor
open Go.RowKit Go.Dw
/-- sections of one take that join -/
structure Rw where
  take : Int
  from_ : Int
  at_ : Int
  len : Int
def rw0 : Rw := ⟨0, 0, 0, 0⟩
def rwOf (l : List Rw) (k : Nat) : Rw := l.getD k rw0
theorem take_rw {l : List Rw} {k : Nat} (hk : k < l.length) : l.take (k + 1) = l.take k ++ [rwOf l k] := by
  rw [List.take_succ_eq_append_getElem hk]; simp [rwOf, List.getD, List.getElem?_eq_getElem hk]
theorem rw_mem {l : List Rw} {k : Nat} (hk : k < l.length) : rwOf l k ∈ l := by simp [rwOf, List.getD, List.getElem?_eq_getElem hk]
def stepR (out : List Rw) (t f a n : Int) : List Rw :=
  if 0 < out.length ∧ (rwOf out (out.length - 1)).take = t ∧ (rwOf out (out.length - 1)).from_ + (rwOf out (out.length - 1)).len = f then out.dropLast ++ [⟨t, (rwOf out (out.length - 1)).from_, (rwOf out (out.length - 1)).at_, (rwOf out (out.length - 1)).len + n⟩]
  else out ++ [⟨t, f, a, n⟩]
def frm (l : List Tk) (takes : List Int) (i : Nat) : Int := elOf (tkOf l (elOf takes i).toNat).starts i
def rowsK (l : List Tk) (lens takes : List Int) : Nat → List Rw
  | 0 => []
  | i + 1 => stepR (rowsK l lens takes i) (elOf takes i) (frm l takes i) (lens.take i).sum (elOf lens i)
def RowsFit : Int → List Rw → Prop
  | _, [] => True
  | s, r :: rs => r.at_ = s ∧ 1 ≤ r.len ∧ 0 ≤ r.from_ ∧ RowsFit (s + r.len) rs
def totR : List Rw → Int
  | [] => 0
  | r :: rs => r.len + totR rs
theorem totR_append : ∀ (a b : List Rw), totR (a ++ b) = totR a + totR b
  | [], b => by simp [totR]
  | r :: a, b => by show r.len + totR (a ++ b) = r.len + totR a + totR b; rw [totR_append a b]; omega
theorem fit_append : ∀ (a b : List Rw) (s : Int), RowsFit s (a ++ b) ↔ RowsFit s a ∧ RowsFit (s + totR a) b
  | [], b, s => by simp [RowsFit, totR]
  | r :: a, b, s => by
    show (r.at_ = s ∧ 1 ≤ r.len ∧ 0 ≤ r.from_ ∧ RowsFit (s + r.len) (a ++ b)) ↔ (r.at_ = s ∧ 1 ≤ r.len ∧ 0 ≤ r.from_ ∧ RowsFit (s + r.len) a) ∧ RowsFit (s + (r.len + totR a)) b
    rw [fit_append a b, show s + r.len + totR a = s + (r.len + totR a) by omega]
    simp only [and_assoc]
section
variable (md : List Md) (l : List Tk) (ch : Int)
def sndR (r : Rw) : List Int := ((trackOf md (tkOf l r.take.toNat).media ch).drop r.from_.toNat).take r.len.toNat
def inR (r : Rw) : Prop := r.from_ + r.len ≤ ((trackOf md (tkOf l r.take.toNat).media ch).length : Int)
def sndRows : List Rw → List Int
  | [] => []
  | r :: rs => sndR md l ch r ++ sndRows rs
theorem sndRows_append : ∀ (a b : List Rw), sndRows md l ch (a ++ b) = sndRows md l ch a ++ sndRows md l ch b
  | [], b => rfl
  | r :: a, b => by show sndR md l ch r ++ sndRows md l ch (a ++ b) = (sndR md l ch r ++ sndRows md l ch a) ++ sndRows md l ch b; rw [sndRows_append a b, List.append_assoc]
end
theorem last_split {out : List Rw} (h : 0 < out.length) : out = out.dropLast ++ [rwOf out (out.length - 1)] := by
  have h1 : rwOf out (out.length - 1) = out.getLast (by intro e; rw [e] at h; simp at h) := by
    rw [rwOf, List.getLast_eq_getElem, List.getD_eq_getElem?_getD, List.getElem?_eq_getElem (by omega)]
    rfl
  rw [h1, List.dropLast_concat_getLast]
theorem stepR_ok {md : List Md} {l : List Tk} {out : List Rw} {t f a n : Int} (hf : RowsFit 0 out) (ha : a = totR out) (hn : 1 ≤ n) (h0 : 0 ≤ f) :
    RowsFit 0 (stepR out t f a n) ∧ totR (stepR out t f a n) = totR out + n ∧
    (∀ ch, (∀ r ∈ out, inR md l ch r) → f + n ≤ ((trackOf md (tkOf l t.toNat).media ch).length : Int) → (∀ r ∈ stepR out t f a n, inR md l ch r) ∧ sndRows md l ch (stepR out t f a n) = sndRows md l ch out ++ ((trackOf md (tkOf l t.toNat).media ch).drop f.toNat).take n.toNat) := by
  unfold stepR
  by_cases h : 0 < out.length ∧ (rwOf out (out.length - 1)).take = t ∧ (rwOf out (out.length - 1)).from_ + (rwOf out (out.length - 1)).len = f
  · rw [if_pos h]
    obtain ⟨hl, ht, hff⟩ := h
    obtain ⟨b, r, hb, hr⟩ : ∃ b r, out = b ++ [r] ∧ r = rwOf out (out.length - 1) := ⟨_, _, last_split hl, rfl⟩
    rw [← hr] at ht hff ⊢
    have hdl : out.dropLast = b := by rw [hb]; simp
    rw [hdl]
    clear hr hdl
    subst hb ht hff
    rw [fit_append] at hf ⊢
    obtain ⟨f1, f2, f3, f4, _⟩ := hf
    refine ⟨⟨f1, f2, by dsimp only; omega, f4, trivial⟩, ?_, fun ch hin hlen => ⟨fun q hq => ?_, ?_⟩⟩
    · rw [totR_append, totR_append]; show totR b + (r.len + n + 0) = totR b + (r.len + 0) + n; omega
    · rcases List.mem_append.1 hq with hq | hq
      · exact hin q (List.mem_append.2 (.inl hq))
      · rw [List.mem_singleton.1 hq]
        show r.from_ + (r.len + n) ≤ _
        dsimp only
        omega
    · rw [sndRows_append, sndRows_append, List.append_assoc]
      congr 1
      show ((trackOf md (tkOf l r.take.toNat).media ch).drop r.from_.toNat).take (r.len + n).toNat ++ [] = (((trackOf md (tkOf l r.take.toNat).media ch).drop r.from_.toNat).take r.len.toNat ++ []) ++ _
      rw [List.append_nil, List.append_nil, show (r.len + n).toNat = r.len.toNat + n.toNat by omega, List.take_add, List.drop_drop, show (r.from_ + r.len).toNat = r.from_.toNat + r.len.toNat by omega]
  · rw [if_neg h, fit_append]
    refine ⟨⟨hf, by show a = _; omega, hn, h0, trivial⟩, ?_, fun ch hin hlen => ⟨fun q hq => ?_, ?_⟩⟩
    · rw [totR_append]; show totR out + (n + 0) = _; omega
    · rcases List.mem_append.1 hq with hq | hq
      · exact hin q hq
      · rw [List.mem_singleton.1 hq]; exact hlen
    · rw [sndRows_append]
      show _ ++ (sndR md l ch _ ++ []) = _
      rw [List.append_nil]; rfl
/-- the pieces up to a section, one after another -/
def piecesK (md : List Md) (l : List Tk) (lens takes : List Int) (ch : Int) : Nat → List Int
  | 0 => []
  | i + 1 => piecesK md l lens takes ch i ++ ((trackOf md (tkOf l (elOf takes i).toNat).media ch).drop (frm l takes i).toNat).take ((frm l takes i + elOf lens i).toNat - (frm l takes i).toNat)
theorem el_memB {xs : List Int} {k : Nat} (hk : k < xs.length) : elOf xs k ∈ xs := by simp [elOf, List.getD, List.getElem?_eq_getElem hk]
theorem frm_rng {l : List Tk} {lens takes : List Int} (h : TakesOk l lens takes) {i : Nat} (hi : i < lens.length) : 0 ≤ frm l takes i ∧ frm l takes i ≤ 9999999900000 ∧ 1 ≤ elOf lens i ∧ elOf lens i ≤ 100000 ∧ 0 ≤ elOf takes i ∧ elOf takes i < (l.length : Int) := by
  have ht := h.right _ (el_memB (xs := takes) (k := i) (by rw [h.same]; exact hi))
  have hn := h.long _ (el_memB (xs := lens) (k := i) hi)
  obtain ⟨h1, h2, _⟩ := h.starts _ (tk_mem (l := l) (k := (elOf takes i).toNat) (by omega))
  have h3 := h2 _ (el_memB (xs := (tkOf l (elOf takes i).toNat).starts) (k := i) (by omega))
  exact ⟨h3.1, h3.2, hn.1, hn.2, ht.1, ht.2⟩
theorem sum_take {lens : List Int} {i : Nat} (hi : i < lens.length) : (lens.take (i + 1)).sum = (lens.take i).sum + elOf lens i := by
  rw [take_el hi]; simp
theorem rowsK_ok {md : List Md} {l : List Tk} {lens takes : List Int} (h : TakesOk l lens takes) : ∀ i, i ≤ lens.length → RowsFit 0 (rowsK l lens takes i) ∧ totR (rowsK l lens takes i) = (lens.take i).sum ∧
    (∀ ch, (∀ j, j < i → frm l takes j + elOf lens j ≤ ((trackOf md (tkOf l (elOf takes j).toNat).media ch).length : Int)) → (∀ r ∈ rowsK l lens takes i, inR md l ch r) ∧ sndRows md l ch (rowsK l lens takes i) = piecesK md l lens takes ch i)
  | 0, _ => ⟨trivial, by simp [rowsK, totR], fun ch _ => ⟨fun r hr => by simp [rowsK] at hr, rfl⟩⟩
  | i + 1, hi => by
    obtain ⟨h1, h2, h3⟩ := rowsK_ok (md := md) h i (by omega)
    obtain ⟨g1, g2, g3, g4, g5, g6⟩ := frm_rng h (i := i) (by omega)
    obtain ⟨k1, k2, k3⟩ := stepR_ok (md := md) (l := l) (t := elOf takes i) (f := frm l takes i) (a := (lens.take i).sum) (n := elOf lens i) h1 h2.symm g3 g1
    refine ⟨k1, by rw [sum_take (by omega), ← h2]; exact k2, fun ch hc => ?_⟩
    obtain ⟨m1, m2⟩ := h3 ch (fun j hj => hc j (by omega))
    obtain ⟨n1, n2⟩ := k3 ch m1 (hc i (by omega))
    refine ⟨n1, ?_⟩
    show sndRows md l ch (stepR _ _ _ _ _) = piecesK md l lens takes ch i ++ _
    rw [n2, m2, show (frm l takes i + elOf lens i).toNat - (frm l takes i).toNat = (elOf lens i).toNat by omega]
def one1 : List Pt := [⟨0, ⟨#[49]⟩, ⟨#[49]⟩⟩]
def bClip (l : List Tk) (c : Int) (r : Rw) : Cp := ⟨(tkOf l r.take.toNat).media, c, r.from_, c, r.at_, r.len, one1⟩
/-- the clips that are built -/
def bClips (l : List Tk) (rows : List Rw) : Nat → List Cp
  | 0 => []
  | c + 1 => bClips l rows c ++ rows.map (bClip l (c : Int))
theorem one1_val : ptV ⟨0, ⟨#[49]⟩, ⟨#[49]⟩⟩ = 1 := by
  unfold ptV valQ
  rw [show parseZ ⟨#[49]⟩ = 1 by rfl, show decV (⟨#[49]⟩ : ByteArray).data.toList = 1 by rfl]
  rfl
theorem envV_one {i : Int} (hi : 0 ≤ i) : envV one1 i = 1 := by
  unfold envV
  by_cases h : i = 0
  · subst h
    rw [if_pos ⟨by decide, by decide⟩]
    exact one1_val
  · have hk : envK one1 i = 1 := by
      unfold envK one1
      rw [List.countP_cons_of_pos (by simp; omega)]; rfl
    rw [hk, if_neg (by simp [one1]), if_neg (by decide), if_pos (show 1 = one1.length from rfl)]
    exact one1_val
theorem mix_other {md : List Md} {l : List Tk} {t p c : Int} (h : c ≠ t) : ∀ rs : List Rw, mixC md t p (rs.map (bClip l c)) = 0
  | [] => rfl
  | r :: rs => by
    show conC md t p (bClip l c r) + mixC md t p (rs.map (bClip l c)) = 0
    rw [mix_other h rs, conC, if_neg (by rintro ⟨h1, _⟩; exact h h1)]; exact Rat.add_zero 0
theorem mix_ahead {md : List Md} {l : List Tk} {t p : Int} : ∀ (rs : List Rw) (s : Int), RowsFit s rs → p < s → mixC md t p (rs.map (bClip l t)) = 0
  | [], _, _, _ => rfl
  | r :: rs, s, ⟨h1, h2, _, h3⟩, hp => by
    show conC md t p (bClip l t r) + mixC md t p (rs.map (bClip l t)) = 0
    rw [mix_ahead rs _ h3 (by omega), conC, if_neg (by rintro ⟨_, h4, _⟩; have : r.at_ ≤ p := h4; omega)]; exact Rat.add_zero 0
theorem mix_rows {md : List Md} {l : List Tk} {t p : Int} : ∀ (rs : List Rw) (s : Int), RowsFit s rs → (∀ r ∈ rs, inR md l t r) → s ≤ p → mixC md t p (rs.map (bClip l t)) = ((elOf (sndRows md l t rs) (p - s).toNat : Int) : Rat)
  | [], _, _, _, _ => by show (0 : Rat) = ((elOf [] _ : Int) : Rat); simp [elOf]
  | r :: rs, s, ⟨h1, h2, h0, h3⟩, hin, hp => by
    have hr := hin r (by simp)
    unfold inR at hr
    have hsl : (sndR md l t r).length = r.len.toNat := by unfold sndR; rw [List.length_take, List.length_drop]; omega
    show conC md t p (bClip l t r) + mixC md t p (rs.map (bClip l t)) = ((elOf (sndR md l t r ++ sndRows md l t rs) _ : Int) : Rat)
    by_cases hlt : p < s + r.len
    · rw [mix_ahead rs _ h3 hlt, Rat.add_zero, conC]
      rw [if_pos ⟨rfl, by show r.at_ ≤ p; omega, by show p < r.at_ + r.len; omega, by show r.from_ + (p - r.at_) < ((trackOf md (tkOf l r.take.toNat).media t).length : Int); omega⟩]
      show envV one1 (p - r.at_) * ((elOf (trackOf md (tkOf l r.take.toNat).media t) (r.from_ + (p - r.at_)).toNat : Int) : Rat) = _
      rw [envV_one (by omega), Rat.one_mul]
      refine congrArg (fun z : Int => (z : Rat)) ?_
      unfold elOf
      rw [List.getD_eq_getElem?_getD, List.getD_eq_getElem?_getD, List.getElem?_append_left (show (p - s).toNat < (sndR md l t r).length by omega)]
      unfold sndR
      simp only [List.getD, List.getElem?_take, List.getElem?_drop]
      rw [if_pos (by omega), show r.from_.toNat + (p - s).toNat = (r.from_ + (p - r.at_)).toNat by omega]
    · rw [mix_rows rs _ h3 (fun q hq => hin q (by simp [hq])) (by omega), conC, if_neg (by rintro ⟨_, _, h5, _⟩; have : p < r.at_ + r.len := h5; omega), Rat.zero_add]
      refine congrArg (fun z : Int => (z : Rat)) ?_
      unfold elOf
      rw [List.getD_eq_getElem?_getD, List.getD_eq_getElem?_getD, List.getElem?_append_right (by omega), hsl, show (p - s).toNat - r.len.toNat = (p - (s + r.len)).toNat by omega]
theorem mix_built {md : List Md} {l : List Tk} {rs : List Rw} {p t : Int} (hf : RowsFit 0 rs) (hin : ∀ r ∈ rs, inR md l t r) (hp : 0 ≤ p) (h0 : 0 ≤ t) : ∀ n : Nat, mixC md t p (bClips l rs n) = if t < n then ((elOf (sndRows md l t rs) p.toNat : Int) : Rat) else 0
  | 0 => by rw [if_neg (by omega)]; rfl
  | n + 1 => by
    show mixC md t p (bClips l rs n ++ rs.map (bClip l (n : Int))) = _
    rw [mixC_append, mix_built hf hin hp h0 n]
    by_cases h : t = (n : Int)
    · subst h
      rw [if_neg (by omega), if_pos (by omega), mix_rows rs 0 hf hin hp, Rat.zero_add, show p - 0 = p by omega]
    · rw [mix_other (Ne.symm h), Rat.add_zero]
      by_cases h2 : t < n
      · rw [if_pos h2, if_pos (by omega)]
      · rw [if_neg h2, if_neg (by omega)]
theorem snd_len {md : List Md} {l : List Tk} {t : Int} : ∀ (rs : List Rw) (s : Int), RowsFit s rs → (∀ r ∈ rs, inR md l t r) → ((sndRows md l t rs).length : Int) = totR rs
  | [], _, _, _ => rfl
  | r :: rs, s, ⟨h1, h2, h0, h3⟩, hin => by
    have hr := hin r (by simp)
    unfold inR at hr
    have hsl : (sndR md l t r).length = r.len.toNat := by unfold sndR; rw [List.length_take, List.length_drop]; omega
    have := snd_len rs _ h3 (fun q hq => hin q (by simp [hq]))
    show ((sndR md l t r ++ sndRows md l t rs).length : Int) = r.len + totR rs
    rw [List.length_append, hsl]; omega
theorem fit_nn : ∀ (rs : List Rw) (s : Int), RowsFit s rs → 0 ≤ totR rs
  | [], _, _ => Int.le_refl _
  | r :: rs, s, ⟨_, h2, _, h3⟩ => by have := fit_nn rs _ h3; show 0 ≤ r.len + totR rs; omega
theorem end_rows {l : List Tk} {c : Int} : ∀ (rs : List Rw) (s m : Int), RowsFit s rs → m ≤ s + totR rs → 0 < rs.length → (rs.map (bClip l c)).foldl (fun n c => max n (c.at_ + c.len)) m = s + totR rs
  | [], _, _, _, _, h => by simp at h
  | [r], s, m, ⟨h1, h2, h0, h3⟩, hm, _ => by
    show max m (r.at_ + r.len) = s + (r.len + 0)
    have : m ≤ s + (r.len + 0) := hm
    omega
  | r :: q :: rs, s, m, ⟨h1, h2, h0, h3⟩, hm, _ => by
    obtain ⟨g1, g2, g0, g3⟩ := h3
    have e := end_rows (l := l) (c := c) (q :: rs) (s + r.len) (max m (r.at_ + r.len)) ⟨g1, g2, g0, g3⟩ (by
      have : m ≤ s + (r.len + totR (q :: rs)) := hm
      have h9 : 0 ≤ totR (q :: rs) := fit_nn _ _ ⟨g1, g2, g0, g3⟩
      omega) (by simp)
    show ((q :: rs).map (bClip l c)).foldl _ (max m (r.at_ + r.len)) = s + (r.len + totR (q :: rs))
    rw [e]; omega
theorem end_built {l : List Tk} {rs : List Rw} (hf : RowsFit 0 rs) : ∀ n : Nat, endC (bClips l rs n) = if n = 0 then 0 else totR rs
  | 0 => rfl
  | n + 1 => by
    have hn := fit_nn rs 0 hf
    unfold endC
    rw [show bClips l rs (n + 1) = bClips l rs n ++ rs.map (bClip l (n : Int)) from rfl, List.foldl_append]
    have h1 := end_built (l := l) hf n
    unfold endC at h1
    rw [h1, show (if n + 1 = 0 then 0 else totR rs) = totR rs from if_neg (by omega)]
    by_cases h0 : 0 < rs.length
    · rw [end_rows rs 0 _ hf (by split <;> omega) h0]; omega
    · obtain rfl : rs = [] := List.length_eq_zero_iff.1 (by omega)
      show (if n = 0 then 0 else totR []) = totR []
      split <;> rfl
theorem sum_zeros {α : Type} : ∀ (l : List α), (l.map (fun _ => (0 : Int))).sum = 0
  | [] => rfl
  | _ :: l => by rw [List.map_cons, List.sum_cons, sum_zeros l]; rfl
/-- rendered: the pieces, one after another -/
theorem ren_built {md : List Md} {l : List Tk} {lens takes : List Int} {tracks : Nat} (h : TakesOk l lens takes) (hs : ∀ m ∈ md, ∀ xs ∈ m.xss, ∀ x ∈ xs, smpB x = true)
    (hin : ∀ t : Nat, t < tracks → ∀ j, j < lens.length → frm l takes j + elOf lens j ≤ ((trackOf md (tkOf l (elOf takes j).toNat).media t).length : Int)) :
    renS md (bClips l (rowsK l lens takes lens.length) tracks) tracks = (List.range tracks).map (fun t : Nat => piecesK md l lens takes t lens.length) ∧ renN md (bClips l (rowsK l lens takes lens.length) tracks) tracks = 0 := by
  obtain ⟨h1, h2, h3⟩ := rowsK_ok (md := md) h lens.length (Nat.le_refl _)
  have hsm : ∀ (t : Nat) x, x ∈ trackOf md (tkOf l (x.natAbs)).media t → smpB x = true ∨ True := fun _ _ _ => .inr trivial
  have htr : ∀ s ch, ∀ x ∈ trackOf md s ch, smpB x = true := by
    intro s ch x hx
    unfold trackOf sndOf at hx
    cases hf : findM md s with
    | none => rw [hf] at hx; simp [rowOf] at hx
    | some m =>
      rw [hf] at hx
      dsimp only at hx
      have hm : m ∈ md := List.mem_of_find?_eq_some hf
      unfold rowOf at hx
      by_cases hl : ch.toNat < m.xss.length
      · rw [List.getD_eq_getElem?_getD, List.getElem?_eq_getElem hl] at hx
        exact hs m hm _ (List.getElem_mem hl) x hx
      · rw [List.getD_eq_getElem?_getD, List.getElem?_eq_none (by omega)] at hx; simp at hx
  have hpk : ∀ (ch : Int) i, ∀ x ∈ piecesK md l lens takes ch i, smpB x = true := by
    intro ch i
    induction i with
    | zero => intro x hx; simp [piecesK] at hx
    | succ i ih =>
      intro x hx
      rcases List.mem_append.1 hx with hx | hx
      · exact ih x hx
      · exact htr _ _ x (List.mem_of_mem_drop (List.mem_of_mem_take hx))
  have key : ∀ t : Nat, t < tracks → ∀ p : Nat, p < (endC (bClips l (rowsK l lens takes lens.length) tracks)).toNat → mixC md t p (bClips l (rowsK l lens takes lens.length) tracks) = ((elOf (piecesK md l lens takes t lens.length) p : Int) : Rat) ∧ p < (piecesK md l lens takes t lens.length).length := by
    intro t ht p hp
    obtain ⟨g1, g2⟩ := h3 t (fun j hj => hin t ht j hj)
    rw [mix_built h1 g1 (by omega) (by omega) tracks, if_pos (by omega), g2]
    refine ⟨by simp, ?_⟩
    have h4 := snd_len _ _ h1 g1
    rw [end_built h1, if_neg (by omega)] at hp
    rw [g2] at h4
    omega
  have hlen : ∀ t : Nat, t < tracks → (piecesK md l lens takes t lens.length).length = (endC (bClips l (rowsK l lens takes lens.length) tracks)).toNat := by
    intro t ht
    obtain ⟨g1, g2⟩ := h3 t (fun j hj => hin t ht j hj)
    have h4 := snd_len _ _ h1 g1
    rw [g2] at h4
    rw [end_built h1, if_neg (by omega)]
    omega
  constructor
  · unfold renS
    refine List.map_congr_left fun t ht => ?_
    have ht' := List.mem_range.1 ht
    unfold renT
    refine List.ext_getElem (by simp [hlen t ht']) fun p hp1 hp2 => ?_
    simp only [List.getElem_map, List.getElem_range]
    have hp : p < (endC (bClips l (rowsK l lens takes lens.length) tracks)).toNat := by simpa using hp1
    obtain ⟨k1, k2⟩ := key t ht' p hp
    rw [k1, nearQ_int]
    have e : elOf (piecesK md l lens takes t lens.length) p = (piecesK md l lens takes t lens.length)[p] := by simp [elOf, List.getD, hp2]
    rw [e]
    exact (clipV_in (hpk t _ _ (List.getElem_mem hp2))).1
  · unfold renN
    have : ∀ t ∈ List.range tracks, renN1 md (bClips l (rowsK l lens takes lens.length) tracks) (t : Nat) = 0 := by
      intro t ht
      have ht' := List.mem_range.1 ht
      unfold renN1
      have h5 : (List.range (endC (bClips l (rowsK l lens takes lens.length) tracks)).toNat).map (fun p : Nat => clipN (nearQ (mixC md t p (bClips l (rowsK l lens takes lens.length) tracks)))) = (List.range (endC (bClips l (rowsK l lens takes lens.length) tracks)).toNat).map (fun _ => 0) := by
        refine List.map_congr_left fun p hp => ?_
        obtain ⟨k1, k2⟩ := key t ht' p (List.mem_range.1 hp)
        rw [k1, nearQ_int]
        have e : elOf (piecesK md l lens takes t lens.length) p = (piecesK md l lens takes t lens.length)[p] := by simp [elOf, List.getD, k2]
        rw [e]
        exact (clipV_in (hpk t _ _ (List.getElem_mem k2))).2
      rw [h5]
      exact sum_zeros _
    rw [List.map_congr_left this]
    exact sum_zeros _
end Go.Proofs.YtkmcohnhanphdaaGreatDoor
