/- Coarser, the sound's. -/
import Derived.Test.YtpnbkkpbgpcgiaaOv1
set_option linter.unusedSimpArgs false
set_option linter.unusedVariables false
namespace Go.Proofs.Ytpnbkkpbgpcgiaa
open Go.RowKit Go.Dw
def coChk : List Bn → Int
  | [] => 0
  | b :: t => if b.2.1 < b.1 then 3 else if smpB b.1 = false ∨ smpB b.2.1 = false ∨ b.2.2 < 0 then 1 else coChk t
theorem drop_bn {l : List Bn} {k : Nat} (hk : k < l.length) : l.drop k = bnOf l k :: l.drop (k + 1) := by
  rw [List.drop_eq_getElem_cons hk]; simp [bnOf, List.getD, List.getElem?_eq_getElem hk]
def coStep (q : Nat) (acc : List Bn) (i : Nat) (b : Bn) : Option (List Bn) :=
  if i % q = 0 then some (acc ++ [b]) else if 9223372036854775807 - (bnOf acc (acc.length - 1)).2.2 < b.2.2 then none else some (acc.set (acc.length - 1) (jnB (bnOf acc (acc.length - 1)) b))
def coK (q : Nat) (l : List Bn) : Nat → Option (List Bn)
  | 0 => some []
  | i + 1 => (coK q l i).bind fun acc => coStep q acc i (bnOf l i)
theorem coK_none {q : Nat} {l : List Bn} {i : Nat} (h : coK q l i = none) : ∀ d, coK q l (i + d) = none
  | 0 => h
  | d + 1 => by show (coK q l (i + d)).bind _ = none; rw [coK_none h d]; rfl
structure CoOk (i : Nat) (acc : List Bn) : Prop where
  le : acc.length ≤ i
  pos : 0 < i → 0 < acc.length
  rng : ∀ c ∈ acc, 0 ≤ c.2.2 ∧ c.2.2 ≤ 9223372036854775807
theorem coStep_ok {q : Nat} {acc acc' : List Bn} {i : Nat} {b : Bn} (h : CoOk i acc) (hb : 0 ≤ b.2.2 ∧ b.2.2 ≤ 9223372036854775807) (hs : coStep q acc i b = some acc') : CoOk (i + 1) acc' := by
  unfold coStep at hs
  split at hs
  · injection hs with hs; subst hs
    refine ⟨by have := h.le; simp; omega, fun _ => by simp, fun c hc => ?_⟩
    rcases List.mem_append.1 hc with hc | hc
    · exact h.rng c hc
    · obtain rfl : c = b := by simpa using hc
      exact hb
  · rename_i hm
    have hi : 0 < i := by rcases Nat.eq_zero_or_pos i with h0 | h0; (subst h0; simp at hm); exact h0
    have hp := h.pos hi
    split at hs
    · cases hs
    · rename_i hlt
      injection hs with hs; subst hs
      refine ⟨by have := h.le; rw [List.length_set]; omega, fun _ => by rw [List.length_set]; exact hp, fun c hc => ?_⟩
      rcases List.mem_or_eq_of_mem_set hc with hc | hc
      · exact h.rng c hc
      · have hd := h.rng _ (bnOf_mem (bs := acc) (k := acc.length - 1) (by omega))
        subst hc
        unfold jnB; dsimp only
        omega
structure OkL (l : List Bn) : Prop where
  rng : ∀ c ∈ l, c.2.2 ≤ 9223372036854775807
theorem coChk_zero : ∀ {l : List Bn}, coChk l = 0 → ∀ c ∈ l, 0 ≤ c.2.2
  | b :: t, h, c, hc => by
    unfold coChk at h
    split at h
    · cases h
    · split at h
      · cases h
      · rename_i h2
        rcases List.mem_cons.1 hc with rfl | hc
        · omega
        · exact coChk_zero h c hc
set_option maxRecDepth 100000 in
set_option maxHeartbeats 4000000 in
theorem COARSER_ok (A : Option Addr) (n c q : Nat) (l : List Bn) (hq1 : 1 ≤ q) (hq2 : q ≤ 100000) (hn9 : n ≤ 5864062014634) (hlr : Hid (OkL l)) (w : World) (B : Nat) (hB : B ≤ w.heap.size) (hc9 : n ≤ c ∧ c ≤ maxLen) (hh : Hid (BnsAt w B A n l)) :
    Calls Try.prog 30 #[.slice A n c, .int .i64 q] w fun e w' => ∃ v f res, e = .returned (.tuple #[v, .int .i64 f]) ∧ OwnBns w' w.heap.size v res ∧ Below w.heap.size w w' ∧
      ((coChk l ≠ 0 ∧ f = coChk l ∧ res = []) ∨ (coChk l = 0 ∧ coK q l l.length = none ∧ f = 2 ∧ res = []) ∨ (coChk l = 0 ∧ coK q l l.length = some res ∧ f = 0)) := by
  have hl := Lib.hid hh.out.1
  have d1 : decide ((q : Int) < 1) = false := by simp; omega
  have d2 : decide (100000 < (q : Int)) = false := by simp; omega
  obtain ⟨hnc, hcm⟩ := hc9
  unfold maxLen at hcm
  go_enter Try.func30, Try.ntmps30
  go_wp2_with fail
  go_loopw [20] (fun i wr => ∃ k : Nat, k ≤ n ∧ i = .int .i64 k ∧ Hid (Below w.heap.size w wr) ∧ Hid (coChk l = coChk (l.drop k))) (fun i _ => n - (intOf i).toNat)
  case atStart => exact ⟨0, Nat.zero_le _, rfl, Below.refl _ _, rfl⟩
  case round =>
    obtain ⟨k, hk, rfl, hS, hC⟩ := hrel
    by_cases hlt : k < n
    · obtain ⟨bA, oA, rfl, hb, k1, k2, k3⟩ := (hh.out.below (hS.out.mono hB) (Nat.le_refl _)).2 k hlt
      have hkl : k < l.length := by rw [hl.out]; exact hlt
      have HD : Hid (coChk l = if (bnOf l k).2.1 < (bnOf l k).1 then 3 else if smpB (bnOf l k).1 = false ∨ smpB (bnOf l k).2.1 = false ∨ (bnOf l k).2.2 < 0 then 1 else coChk (l.drop (k + 1))) := by
        show _ = _; rw [hC.out, drop_bn hkl]; rfl
      obtain ⟨d, hd⟩ : ∃ d, bnOf l k = d := ⟨_, rfl⟩
      rw [hd] at k1 k2 k3 HD
      obtain ⟨x1, x2, x3⟩ := d
      dsimp only at k1 k2 k3 HD
      have hk0 : (0 : Int) ≤ (k : Int) := by omega
      have hkn : (k : Int) < (n : Int) := by omega
      clear hd
      have hsw := hS.out.size
      by_cases h1 : x2 < x1
      · have hC3 : coChk l = 3 := by rw [HD.out, if_pos h1]
        clear HD
        go_wp2_with fail
        go_ret2
        exact ⟨_, _, [], rfl, World.ownsRow_nil _ _ _ _, hS.out.alloc (by omega) _, .inl ⟨by rw [hC3]; omega, by rw [hC3], rfl⟩⟩
      by_cases h2 : smpB x1 = false
      · have hC3 : coChk l = 1 := by rw [HD.out, if_neg h1, if_pos (.inl h2)]
        have HS1 := Lib.hid h2
        have h1' : x1 ≤ x2 := by omega
        clear HD h1 h2
        go_wp2_with (go_at_call 72; refine (ISSAMPLE_eq _ _ HS1 _).mono ?_; rintro e w' ⟨rfl, rfl⟩)
        go_ret2
        exact ⟨_, _, [], rfl, World.ownsRow_nil _ _ _ _, hS.out.alloc (by omega) _, .inl ⟨by rw [hC3]; omega, by rw [hC3], rfl⟩⟩
      have h2' : smpB x1 = true := by simpa using h2
      have HS1 := Lib.hid h2'
      by_cases h3 : smpB x2 = false
      · have hC3 : coChk l = 1 := by rw [HD.out, if_neg h1, if_pos (.inr (.inl h3))]
        have HS2 := Lib.hid h3
        have h1' : x1 ≤ x2 := by omega
        clear HD h1 h2 h2' h3
        go_wp2_with (first | (go_at_call 72; (with_reducible refine (ISSAMPLE_eq x1 true HS1 _).mono ?_); rintro e w' ⟨rfl, rfl⟩) | (go_at_call 72; (with_reducible refine (ISSAMPLE_eq x2 false HS2 _).mono ?_); rintro e w' ⟨rfl, rfl⟩))
        go_ret2
        exact ⟨_, _, [], rfl, World.ownsRow_nil _ _ _ _, hS.out.alloc (by omega) _, .inl ⟨by rw [hC3]; omega, by rw [hC3], rfl⟩⟩
      have h3' : smpB x2 = true := by simpa using h3
      have HS2 := Lib.hid h3'
      by_cases h4 : x3 < 0
      · have hC3 : coChk l = 1 := by rw [HD.out, if_neg h1, if_pos (.inr (.inr h4))]
        have h1' : x1 ≤ x2 := by omega
        clear HD h1 h2 h2' h3 h3'
        go_wp2_with (first | (go_at_call 72; (with_reducible refine (ISSAMPLE_eq x1 true HS1 _).mono ?_); rintro e w' ⟨rfl, rfl⟩) | (go_at_call 72; (with_reducible refine (ISSAMPLE_eq x2 true HS2 _).mono ?_); rintro e w' ⟨rfl, rfl⟩))
        go_ret2
        exact ⟨_, _, [], rfl, World.ownsRow_nil _ _ _ _, hS.out.alloc (by omega) _, .inl ⟨by rw [hC3]; omega, by rw [hC3], rfl⟩⟩
      have HC4 : Hid (coChk l = coChk (l.drop (k + 1))) := by show _ = _; rw [HD.out, if_neg h1, if_neg (by simp [h2', h3']; omega)]
      have h1' : x1 ≤ x2 := by omega
      have h4' : 0 ≤ x3 := by omega
      clear HD h1 h2 h2' h3 h3' h4
      go_wp2_with (first | (go_at_call 72; (with_reducible refine (ISSAMPLE_eq x1 true HS1 _).mono ?_); rintro e w' ⟨rfl, rfl⟩) | (go_at_call 72; (with_reducible refine (ISSAMPLE_eq x2 true HS2 _).mono ?_); rintro e w' ⟨rfl, rfl⟩))
      go_roundw
      case rel => exact ⟨k + 1, by omega, by go_num, hS.out.alloc (by omega) _, HC4⟩
      case measure => simp [intOf]; omega
    · obtain rfl : k = n := by omega
      have hC0 : Hid (coChk l = 0) := by show _ = _; rw [hC.out, List.drop_of_length_le (by rw [hl.out]; exact Nat.le_refl _)]; rfl
      have HNN := Lib.hid (coChk_zero hC0.out)
      have hq0 : ¬ (q : Int) = 0 := by omega
      clear hC
      go_wp2_with fail
      have HO0 : Hid (OwnBns wr w.heap.size (.slice none 0 0) []) := World.ownsRow_nil _ _ _ _
      have HK0 : Hid (coK q l 0 = some []) := rfl
      have HI0 : Hid (CoOk 0 []) := ⟨Nat.le_refl _, fun h => by omega, fun c hc => by cases hc⟩
      go_loopw [8, 47] (fun v i wr => ∃ (j : Nat) (acc : List Bn), j ≤ k ∧ i = .int .i64 j ∧ Hid (Below w.heap.size w wr) ∧ Hid (OwnBns wr w.heap.size v acc) ∧ Hid (coK q l j = some acc) ∧ Hid (CoOk j acc)) (fun _ i _ => k - (intOf i).toNat)
      case atStart => exact ⟨0, [], Nat.zero_le _, rfl, hS, HO0, HK0, HI0⟩
      case round =>
        obtain ⟨j, acc, hj, rfl, hS, ho, hKK, hI⟩ := hrel
        obtain ⟨A5, c5, rfl, hcc1, hcc2⟩ := own_form ho.out
        by_cases hjl : j < k
        · obtain ⟨bA, oA, rfl, hb, k1, k2, k3⟩ := (hh.out.below (hS.out.mono hB) (Nat.le_refl _)).2 j hjl
          have hjll : j < l.length := by rw [hl.out]; exact hjl
          have hmem := bnOf_mem hjll
          have hp0 := HNN.out _ hmem
          have hp1 := hlr.out.rng _ hmem
          have HST : Hid (coK q l (j + 1) = coStep q acc j (bnOf l j)) := by show (coK q l j).bind _ = _; rw [hKK.out]; rfl
          obtain ⟨d, hd⟩ : ∃ d, bnOf l j = d := ⟨_, rfl⟩
          rw [hd] at k1 k2 k3 hp0 hp1 HST
          have HIN := Lib.hid (fun acc' (h : coK q l (j + 1) = some acc') => coStep_ok hI.out ⟨hp0, hp1⟩ (HST.out.symm.trans h))
          obtain ⟨x1, x2, x3⟩ := d
          dsimp only at k1 k2 k3 hp0 hp1
          have hj0 : (0 : Int) ≤ (j : Int) := by omega
          have hjn : (j : Int) < (k : Int) := by omega
          have hle := hI.out.le
          have hle2 : acc.length ≤ 5864062014634 := by omega
          have hsb : w.heap.size ≤ wr.heap.size := hS.out.size
          clear hd hmem
          by_cases hmod : j % q = 0
          · have hmI : ((j : Int) % (q : Int) == 0) = true := by simp; omega
            have HST2 : Hid (coK q l (j + 1) = some (acc ++ [(x1, x2, x3)])) := by show _ = _; rw [HST.out]; unfold coStep; rw [if_pos hmod]
            have HI2 := Lib.hid (HIN.out _ HST2.out)
            have hoa : Hid (OwnBns (wr.alloc (.cells #[.int .i64 x1, .int .i64 x2, .int .i64 x3] 46)) w.heap.size (.slice A5 acc.length c5) acc) := ho.out.below ((Below.refl _ _).alloc (Nat.le_refl _) _)
            have hsb2 : w.heap.size ≤ (wr.alloc (.cells #[.int .i64 x1, .int .i64 x2, .int .i64 x3] 46)).heap.size := by simp; omega
            have hgs : (wr.alloc (.cells #[.int .i64 x1, .int .i64 x2, .int .i64 x3] 46)).heap.size = wr.heap.size + 1 := by simp
            go_wp2_with (with_reducible refine wpList_push_bin rfl (.tmp 56) (.tmp 58) rfl w.heap.size A5 acc.length c5 acc x1 x2 x3 (wr.heap.size + 1) hgs rfl rfl hoa.out hle2 hsb2 ?_; intro g5 cap5 w5 hown5 hb5)
            have HS5 := Lib.hid ((hS.out.alloc hsb (.cells #[.int .i64 x1, .int .i64 x2, .int .i64 x3] 46)).trans hb5)
            have HO5 := Lib.hid hown5
            clear hown5 hb5
            go_roundw
            case rel => exact ⟨j + 1, _, by omega, by go_num, HS5, HO5, HST2, HI2⟩
            case measure => simp [intOf]; omega
          · have hmI : ((j : Int) % (q : Int) == 0) = false := by simp; omega
            have hpos : 0 < acc.length := hI.out.pos (by rcases Nat.eq_zero_or_pos j with h0 | h0; (subst h0; simp at hmod); exact h0)
            obtain ⟨m, hm⟩ : ∃ m, m = acc.length - 1 := ⟨_, rfl⟩
            have hml : m < acc.length := by omega
            have hmw : IntKind.i64.wrap ((acc.length : Int) - 1) = (m : Int) := by rw [IntWalk.i64_in _ (by omega)]; omega
            obtain ⟨g5, cap5, hv5, hg5, hg5l, hcap1, hcap2, hcells⟩ := ho.out.slot hpos
            injection hv5 with e1 e2 e3
            subst e1 e3
            obtain ⟨⟨m1, m2, m3⟩, -⟩ := hcells m hml
            obtain ⟨y4, y5⟩ := hI.out.rng _ (bnOf_mem hml)
            obtain ⟨d, hd⟩ : ∃ d, bnOf acc m = d := ⟨_, rfl⟩
            have HST2 : Hid (coK q l (j + 1) = if 9223372036854775807 - d.2.2 < x3 then none else some (acc.set m (jnB d (x1, x2, x3)))) := by
              show _ = _; rw [HST.out]; unfold coStep; rw [if_neg hmod, ← hm, hd]
            rw [hd] at m1 m2 m3 y4 y5
            obtain ⟨w2, hw2'⟩ : ∃ w2, w2 = wr.alloc (.cells #[.int .i64 x1, .int .i64 x2, .int .i64 x3] 46) := ⟨_, rfl⟩
            have hb2' : Below wr.heap.size wr w2 := by rw [hw2']; exact (Below.refl _ _).alloc (Nat.le_refl _) _
            have b1 : w2.cell? ⟨wr.heap.size, 0, none⟩ = some (.int .i64 x1) := by rw [hw2']; simp [go_sem]
            have b2 : w2.cell? ⟨wr.heap.size, 1, none⟩ = some (.int .i64 x2) := by rw [hw2']; simp [go_sem]
            have b3 : w2.cell? ⟨wr.heap.size, 2, none⟩ = some (.int .i64 x3) := by rw [hw2']; simp [go_sem]
            have q1 := (hb2'.cell (p := ⟨g5, m * 3, none⟩) hg5l).trans m1
            have q2 := (hb2'.cell (p := ⟨g5, m * 3 + 1, none⟩) hg5l).trans m2
            have q3 := (hb2'.cell (p := ⟨g5, m * 3 + 2, none⟩) hg5l).trans m3
            have ho2 := Lib.hid (ho.out.below hb2')
            have HS2 := Lib.hid (hS.out.trans (hb2'.mono hsb))
            have hs2 : wr.heap.size < w2.heap.size := by rw [hw2']; simp
            have hm0 : (0 : Int) ≤ (m : Int) := by omega
            have hmn : (m : Int) < (acc.length : Int) := by omega
            have hg52 : g5 < w2.heap.size := by omega
            obtain ⟨e1', e2', e3'⟩ := d
            dsimp only at m1 m2 m3 q1 q2 q3 y4 y5 HST2
            have hww := IntWalk.i64_in (9223372036854775807 - e3') (by omega)
            clear hd hm hcells m1 m2 m3
            by_cases hov : 9223372036854775807 - e3' < x3
            · rw [if_pos hov] at HST2
              go_wp2_with fail
              rw [← hw2']
              clear hw2' k1 k2 k3
              go_quiet (fail)
              go_wp2_with fail
              go_ret2
              refine ⟨_, _, [], rfl, World.ownsRow_nil _ _ _ _, belowN HS2.out _, .inr (.inl ⟨hC0.out, ?_, rfl, rfl⟩)⟩
              have := coK_none HST2.out (l.length - (j + 1))
              rw [show j + 1 + (l.length - (j + 1)) = l.length by omega] at this
              exact this
            · rw [if_neg hov] at HST2
              have HI2 := Lib.hid (HIN.out _ HST2.out)
              go_wp2_with fail
              rw [← hw2']
              clear hw2' k1 k2 k3
              go_quiet (fail)
              go_wp2_with fail
              have hb3 : Below w2.heap.size w2 (w2.drewN nq) := belowN (Below.refl _ _) nq
              obtain ⟨w3, hw3⟩ : ∃ w3, w3 = w2.drewN nq := ⟨_, rfl⟩
              rw [← hw3] at hb3 ⊢
              clear hw3
              have b1' := (hb3.cell (p := ⟨wr.heap.size, 0, none⟩) hs2).trans b1
              have b2' := (hb3.cell (p := ⟨wr.heap.size, 1, none⟩) hs2).trans b2
              have b3' := (hb3.cell (p := ⟨wr.heap.size, 2, none⟩) hs2).trans b3
              have q1' := (hb3.cell (p := ⟨g5, m * 3, none⟩) hg52).trans q1
              have q2' := (hb3.cell (p := ⟨g5, m * 3 + 1, none⟩) hg52).trans q2
              have q3' := (hb3.cell (p := ⟨g5, m * 3 + 2, none⟩) hg52).trans q3
              have ho3 := Lib.hid (ho2.out.below hb3)
              have HS3 := Lib.hid (HS2.out.trans (hb3.mono HS2.out.size))
              have hs3 : wr.heap.size < w3.heap.size := Nat.lt_of_lt_of_le hs2 hb3.size
              have hg53 : g5 < w3.heap.size := Nat.lt_of_lt_of_le hg52 hb3.size
              clear b1 b2 b3 q1 q2 q3 hs2 hg52 ho2 HS2 hS hww
              have hS : Below w3.heap.size w3 w3.drew ∧ (∀ z : Addr, z.block < w3.heap.size → w3.drew.cell? z = w3.cell? z) := ⟨(Below.refl _ _).drew, fun _ _ => rfl⟩
              refine wp_region_head 8 (fun w' => Below w3.heap.size w3 w' ∧ (∀ z : Addr, z.block < w3.heap.size → w'.cell? z = w3.cell? z)) (by kernel_rfl) (by kernel_rfl) ?_
              refine HL.take (i := 0) (oi := _) (v := ?_) rfl (by kernel_rfl) (by kernel_rfl) (by decide) (fun _ _ _ h => h) (Or.inl ⟨by rfl, ?_⟩) hS ?_
              rotate_left
              · intro wz hwz
                try dsimp only at hwz
                go_simp
                try with_reducible rfl
              simp only [Act.put, List.setIfInBounds_toArray, List.set_cons_zero, List.set_cons_succ]
              refine HL.take (i := 1) (oi := _) (v := ?_) rfl (by kernel_rfl) (by kernel_rfl) (by decide) (fun _ _ _ h => h) (Or.inl ⟨by rfl, ?_⟩) hS ?_
              rotate_left
              · intro wz hwz
                try dsimp only at hwz
                go_simp
                try with_reducible rfl
              simp only [Act.put, List.setIfInBounds_toArray, List.set_cons_zero, List.set_cons_succ]
              refine HL.take (i := 2) (oi := _) (v := ?_) rfl (by kernel_rfl) (by kernel_rfl) (by decide) (fun _ _ _ h => h) (Or.inl ⟨by rfl, ?_⟩) hS ?_
              rotate_left
              · intro wz hwz
                try dsimp only at hwz
                go_simp
                try with_reducible rfl
              simp only [Act.put, List.setIfInBounds_toArray, List.set_cons_zero, List.set_cons_succ]
              refine HL.take (i := 3) (oi := _) (v := ?_) rfl (by kernel_rfl) (by kernel_rfl) (by decide) (fun _ _ _ h => h) (Or.inl ⟨by rfl, ?_⟩) hS ?_
              rotate_left
              · intro wz hwz
                try dsimp only at hwz
                go_simp
                try with_reducible rfl
              simp only [Act.put, List.setIfInBounds_toArray, List.set_cons_zero, List.set_cons_succ]
              refine HL.take (i := 4) (oi := _) (v := ?_) rfl (by kernel_rfl) (by kernel_rfl) (by decide) (fun _ _ _ h => h) (Or.inl ⟨by rfl, ?_⟩) hS ?_
              rotate_left
              · intro wz hwz
                try dsimp only at hwz
                go_simp
                try with_reducible rfl
              simp only [Act.put, List.setIfInBounds_toArray, List.set_cons_zero, List.set_cons_succ]
              refine HL.take (i := 5) (oi := _) (v := ?_) rfl (by kernel_rfl) (by kernel_rfl) (by decide) (fun _ _ _ h => h) (Or.inl ⟨by rfl, ?_⟩) hS ?_
              rotate_left
              · intro wz hwz
                try dsimp only at hwz
                go_simp
                try with_reducible rfl
              simp only [Act.put, List.setIfInBounds_toArray, List.set_cons_zero, List.set_cons_succ]
              refine HL.take (i := 6) (oi := _) (v := ?_) rfl (by kernel_rfl) (by kernel_rfl) (by decide) (fun _ _ _ h => h) (Or.inl ⟨by rfl, ?_⟩) hS ?_
              rotate_left
              · intro wz hwz
                try dsimp only at hwz
                go_simp
                try with_reducible rfl
              simp only [Act.put, List.setIfInBounds_toArray, List.set_cons_zero, List.set_cons_succ]
              refine HL.one (i := 7) (o := _) rfl (by kernel_rfl) (by decide) (by rfl) ?_
              intro K hK
              go_simp
              refine (JOINED_any (e1', e2', e3') (x1, x2, x3) y4 hp0 (by dsimp only; omega) _).mono ?_
              rintro e w7 ⟨rfl, hb7⟩
              have hS' := hS
              clear hS
              have hbS := Below.next hS'.1 (Nat.le_refl _) hb7
              have hS : Below w3.heap.size w3 w7 ∧ (∀ z : Addr, z.block < w3.heap.size → w7.cell? z = w3.cell? z) := ⟨hbS, pcell hbS⟩
              refine hK.out _ _ hS ?_
              try simp only [Act.put, List.setIfInBounds_toArray, List.set_cons_zero, List.set_cons_succ]
              clear hK K hS' hS hb7
              refine HL.done (by kernel_rfl) ?_
              try simp only [List.drop_succ_cons, List.drop_zero]
              go_simp
              have ho7 := ho3.out.below hbS
              obtain ⟨g6, cap6, hv6, hg6, hg6l, -, -, hcells6⟩ := ho7.slot hpos
              injection hv6 with e1 e2 e3
              injection e1 with e1
              injection e1 with e1
              subst e1 e3
              obtain ⟨⟨m1, m2, m3⟩, f1, f2, f3⟩ := hcells6 m hml
              have HO8 := Lib.hid (ho7.set_ hml (jnB (e1', e2', e3') (x1, x2, x3)))
              have hS7 : Below w.heap.size w w7 := HS3.out.trans (hbS.mono HS3.out.size)
              have HS8 := Lib.hid (((hS7.setCell (p := ⟨g5, m * 3, none⟩) hg5 (.int .i64 (jnB (e1', e2', e3') (x1, x2, x3)).1)).setCell (p := ⟨g5, m * 3 + 1, none⟩) hg5 (.int .i64 (jnB (e1', e2', e3') (x1, x2, x3)).2.1)).setCell (p := ⟨g5, m * 3 + 2, none⟩) hg5 (.int .i64 (jnB (e1', e2', e3') (x1, x2, x3)).2.2))
              have hsl : (acc.set m (jnB (e1', e2', e3') (x1, x2, x3))).length = acc.length := List.length_set ..
              clear hcells6 q1' q2' q3' b1' b2' b3' hbS ho7 hS7
              go_wp2_with fail
              go_roundw
              case rel => exact ⟨j + 1, _, by omega, by go_num, HS8, HO8, HST2, HI2⟩
              case measure => simp [intOf]; omega
        · obtain rfl : j = k := by omega
          go_wp2_with fail
          go_ret2
          exact ⟨_, _, acc, rfl, ho.out, hS.out, .inr (.inr ⟨hC0.out, by rw [hl.out]; exact hKK.out, rfl⟩)⟩
end Go.Proofs.Ytpnbkkpbgpcgiaa
