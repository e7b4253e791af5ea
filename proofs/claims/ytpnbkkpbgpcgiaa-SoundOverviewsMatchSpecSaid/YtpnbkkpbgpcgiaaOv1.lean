/- Overview, the sound's. -/
import Derived.Test.YtpnbkkpbgpcgiaaBin
import Derived.Test.YtpnbkkpbgpcgiaaEnds
import Derived.OneCell
import Derived.Deep.DeepCutAuto
import Derived.Deep.RegionHeld3
import Derived.Deep.QuietTactic
import Derived.BigQuiet
set_option linter.unusedSimpArgs false
set_option linter.unusedVariables false
namespace Go.Proofs.Ytpnbkkpbgpcgiaa
open Go.RowKit Go.Dw
def ovStep (b : Nat) (acc : List Bn) (i : Nat) (x : Int) : List Bn := if i % b = 0 then acc ++ [(x, x, x * x)] else acc.set (acc.length - 1) (jnB (bnOf acc (acc.length - 1)) (x, x, x * x))
def ovK (b : Nat) (row : List Int) : Nat → List Bn
  | 0 => []
  | i + 1 => ovStep b (ovK b row i) i (elOf row i)
theorem ovK_some {b : Nat} {row : List Int} : ∀ {i : Nat}, 0 < i → 0 < (ovK b row i).length
  | i + 1, _ => by
    show 0 < (ovStep b (ovK b row i) i (elOf row i)).length
    unfold ovStep
    by_cases h : i % b = 0
    · rw [if_pos h]; simp
    · rw [if_neg h, List.length_set]
      rcases Nat.eq_zero_or_pos i with h0 | h0
      · subst h0; simp at h
      · exact ovK_some h0
theorem ovK_le {b : Nat} {row : List Int} : ∀ {i : Nat}, (ovK b row i).length ≤ i
  | 0 => Nat.le_refl _
  | i + 1 => by
    show (ovStep b (ovK b row i) i (elOf row i)).length ≤ _
    have ih := ovK_le (b := b) (row := row) (i := i)
    unfold ovStep
    split
    · simp; omega
    · rw [List.length_set]; omega
theorem bnOf_mem {bs : List Bn} {k : Nat} (hk : k < bs.length) : bnOf bs k ∈ bs := by
  simp only [bnOf, List.getD, List.getElem?_eq_getElem hk, Option.getD_some]; exact List.getElem_mem hk
theorem sq_smp {x : Int} (h1 : -8388608 ≤ x) (h2 : x ≤ 8388607) : 0 ≤ x * x ∧ x * x ≤ 70368744177664 := by
  refine ⟨by rcases Int.le_total 0 x with h | h; exact Int.mul_nonneg h h; exact Int.mul_nonneg_of_nonpos_of_nonpos h h, ?_⟩
  have h3 : (x.natAbs : Int) * x.natAbs ≤ 8388608 * 8388608 := Int.mul_le_mul (by omega) (by omega) (by omega) (by omega)
  rw [Int.natAbs_mul_self'] at h3
  omega
structure OkB (i : Nat) (b : Bn) : Prop where
  l1 : -8388608 ≤ b.1
  l2 : b.1 ≤ b.2.1
  l3 : b.2.1 ≤ 8388607
  p0 : 0 ≤ b.2.2
  p1 : b.2.2 ≤ i * 70368744177664
theorem ovK_ok {b : Nat} {row : List Int} (hrow : ∀ i, i < row.length → -8388608 ≤ elOf row i ∧ elOf row i ≤ 8388607) : ∀ {i : Nat}, i ≤ row.length → ∀ c ∈ ovK b row i, OkB i c
  | 0, _, c, hc => by cases hc
  | i + 1, hi, c, hc => by
    have ih := ovK_ok (b := b) hrow (i := i) (by omega)
    obtain ⟨x1, x2⟩ := hrow i (by omega)
    obtain ⟨s1, s2⟩ := sq_smp x1 x2
    have hc' : c ∈ ovStep b (ovK b row i) i (elOf row i) := hc
    unfold ovStep at hc'
    generalize elOf row i = x at *
    split at hc'
    · rcases List.mem_append.1 hc' with h | h
      · have := ih c h
        exact ⟨this.l1, this.l2, this.l3, this.p0, by have := this.p1; omega⟩
      · obtain rfl : c = (x, x, x * x) := by simpa using h
        exact ⟨x1, Int.le_refl _, x2, s1, by show x * x ≤ _; omega⟩
    · rename_i hb
      have hpos : 0 < (ovK b row i).length := ovK_some (by rcases Nat.eq_zero_or_pos i with h0 | h0; (subst h0; simp at hb); exact h0)
      rcases List.mem_or_eq_of_mem_set hc' with h | h
      · have := ih c h
        exact ⟨this.l1, this.l2, this.l3, this.p0, by have := this.p1; omega⟩
      · have hd := ih _ (bnOf_mem (bs := ovK b row i) (k := (ovK b row i).length - 1) (by omega))
        generalize bnOf (ovK b row i) ((ovK b row i).length - 1) = d at *
        obtain ⟨d1, d2, d3⟩ := d
        obtain ⟨q1, q2, q3, q4, q5⟩ := hd
        subst h
        dsimp only at q1 q2 q3 q4 q5
        exact ⟨by unfold jnB; dsimp only; omega, by unfold jnB; dsimp only; omega, by unfold jnB; dsimp only; omega, by unfold jnB; dsimp only; omega, by unfold jnB; dsimp only; omega⟩
set_option maxRecDepth 100000 in
set_option maxHeartbeats 4000000 in
theorem OVERVIEW_ok (r : Int) (ad : Addr) (n c t b : Nat) (xss : List (List Int)) (hc : Hid (chkS r xss = 0)) (hok : Hid (OkS r xss)) (ht : t < n) (hb1 : 1 ≤ b) (hb2 : b ≤ 100000) (w : World) (B : Nat) (hB : B ≤ w.heap.size) (hh : Hid (RowsAt w B (some ad) n xss)) :
    Calls Try.prog 28 #[.agg #[.int .i64 r, .slice (some ad) n c], .int .i64 t, .int .i64 b] w fun e w' => ∃ v, e = .returned (.tuple #[v, .int .i64 0]) ∧ OwnBns w' w.heap.size v (ovK b (rowOf xss t) (len0 xss)) ∧ Below w.heap.size w w' := by
  have hl := Lib.hid hh.out.1
  have hn16 : n ≤ 16 := by have := hok.out.few; have := hl.out; omega
  have hn : 0 < n := by omega
  have hm := hok.out.long
  have hq : (chkS r xss != 0) = false := by rw [hc.out]; rfl
  have d1 : decide ((t : Int) < 0) = false := by simp
  have d2 : decide (n ≤ t) = false := by simp; omega
  have d3 : decide ((b : Int) < 1) = false := by simp; omega
  have d4 : decide (100000 < (b : Int)) = false := by simp; omega
  have hkx : Hid (t < xss.length) := by show _ < _; have := hl.out; omega
  go_enter Try.func28, Try.ntmps28
  go_wp2_with fail
  refine calls_later (w.heap.size + 1) ?_
  intro W hW hsW
  obtain ⟨hcW, hfW⟩ := bcell hW
  simp only [World.size_alloc] at hsW
  have hbW : Below w.heap.size w W := ((Below.refl _ w).alloc (Nat.le_refl _) _).trans (hW.mono (by omega))
  refine (CHECK_any r (some ad) n c xss _ B (by omega) (hh.out.below hbW hB)).mono ?_
  rintro e w1 ⟨rfl, hb1'⟩
  have hS1 : Below (w.heap.size + 1) W w1 := hb1'.mono hsW
  have hz1 := pcell hS1
  obtain ⟨A', n', c', hadB, hcell, hn', hc', hi⟩ := hh.out.row ht
  obtain rfl : n' = len0 xss := hi.1.symm.trans (hok.out.row hkx.out).1
  have hi' := Lib.hid hi
  have hbr : Below B w w1 := (hbW.mono hB).trans (hS1.mono (by omega))
  have hca := (hbr.cell (p := ad.add t) (by rw [block_of_add]; omega)).trans hcell
  have ht0 : (0 : Int) ≤ (t : Int) := by omega
  have htn : (t : Int) < (n : Int) := by omega
  unfold maxLen at hc'
  clear hb1' hi hbr
  go_wp2_with fail
  have HS1 := Lib.hid hS1
  have HCL := Lib.hid hcell
  clear hz1 hca hS1 hcell
  have HROW : Hid (∀ i, i < (rowOf xss t).length → -8388608 ≤ elOf (rowOf xss t) i ∧ elOf (rowOf xss t) i ≤ 8388607) := fun i hi => hok.out.el hkx.out (by rw [(hok.out.row hkx.out).1] at hi; exact hi)
  have HRL := Lib.hid (hok.out.row hkx.out).1
  have hb0 : ¬ (b : Int) = 0 := by omega
  go_loopw [9, 41] (fun v i wr => ∃ j : Nat, j ≤ len0 xss ∧ i = .int .i64 j ∧ Hid (Below (w.heap.size + 1) W wr) ∧ Hid (OwnBns wr (w.heap.size + 1) v (ovK b (rowOf xss t) j))) (fun _ i _ => len0 xss - (intOf i).toNat)
  case atStart => exact ⟨0, Nat.zero_le _, rfl, HS1.out, World.ownsRow_nil _ _ _ _⟩
  case round =>
    obtain ⟨j, hj, rfl, hS, ho⟩ := hrel
    obtain ⟨A5, c5, rfl, hcc1, hcc2⟩ := own_form ho.out
    by_cases hjl : j < len0 xss
    · obtain ⟨ad', rfl⟩ := hi'.out.addr (by omega)
      have hbr : Below B w wr := (hbW.mono hB).trans (hS.out.mono (by omega))
      have hcx := ((hi'.out.below hbr (Nat.le_refl _)).at_ hjl).2
      obtain ⟨x1, x2⟩ := HROW.out j (by rw [HRL.out]; exact hjl)
      obtain ⟨s1, s2⟩ := sq_smp x1 x2
      have HOK := Lib.hid (ovK_ok (b := b) HROW.out (i := j) (by rw [HRL.out]; omega))
      have hle := ovK_le (b := b) (row := rowOf xss t) (i := j)
      have HST : Hid (ovK b (rowOf xss t) (j + 1) = ovStep b (ovK b (rowOf xss t) j) j (elOf (rowOf xss t) j)) := rfl
      obtain ⟨x, hx⟩ : ∃ x, elOf (rowOf xss t) j = x := ⟨_, rfl⟩
      rw [hx] at hcx x1 x2 s1 s2 HST
      have hw2 := IntWalk.i64_in (x * x) (by omega)
      have hj0 : (0 : Int) ≤ (j : Int) := by omega
      have hjn : (j : Int) < (len0 xss : Int) := by omega
      have hsb : w.heap.size + 1 ≤ wr.heap.size := Nat.le_trans hsW hS.out.size
      obtain ⟨acc, hacc⟩ : ∃ acc, ovK b (rowOf xss t) j = acc := ⟨_, rfl⟩
      have HPOS : Hid (0 < j → 0 < acc.length) := fun h => by rw [← hacc]; exact ovK_some h
      rw [hacc] at ho HOK hle HST hcc1 ⊢
      clear hx hbr hacc
      by_cases hmod : j % b = 0
      · have hmI : ((j : Int) % (b : Int) == 0) = true := by simp; omega
        have HST2 : Hid (ovK b (rowOf xss t) (j + 1) = acc ++ [(x, x, x * x)]) := by show _ = _; rw [HST.out]; unfold ovStep; rw [if_pos hmod]
        have hoa : Hid (OwnBns (wr.alloc (.cells #[.int .i64 x, .int .i64 x, .int .i64 (x * x)] 46)) (w.heap.size + 1) (.slice A5 acc.length c5) acc) := ho.out.below ((Below.refl _ _).alloc (Nat.le_refl _) _)
        have hsb2 : w.heap.size + 1 ≤ (wr.alloc (.cells #[.int .i64 x, .int .i64 x, .int .i64 (x * x)] 46)).heap.size := by simp; omega
        have hle2 : acc.length ≤ 5864062014634 := by omega
        have hgs : (wr.alloc (.cells #[.int .i64 x, .int .i64 x, .int .i64 (x * x)] 46)).heap.size = wr.heap.size + 1 := by simp
        go_wp2_with (with_reducible refine wpList_push_bin rfl (.tmp 56) (.tmp 58) rfl (w.heap.size + 1) A5 acc.length c5 acc x x (x * x) (wr.heap.size + 1) hgs rfl rfl hoa.out hle2 hsb2 ?_; intro g5 cap5 w5 hown5 hb5)
        have HS5 := Lib.hid ((hS.out.alloc hsb (.cells #[.int .i64 x, .int .i64 x, .int .i64 (x * x)] 46)).trans hb5)
        rw [← HST2.out] at hown5
        have HO5 := Lib.hid hown5
        clear hown5 hb5
        go_roundw
        case rel => exact ⟨j + 1, by omega, by go_num, HS5, HO5⟩
        case measure => simp [intOf]; omega
      · have hmI : ((j : Int) % (b : Int) == 0) = false := by simp; omega
        have hpos : 0 < acc.length := HPOS.out (by rcases Nat.eq_zero_or_pos j with h0 | h0; (subst h0; simp at hmod); exact h0)
        have HST2 : Hid (ovK b (rowOf xss t) (j + 1) = acc.set (acc.length - 1) (jnB (bnOf acc (acc.length - 1)) (x, x, x * x))) := by show _ = _; rw [HST.out]; unfold ovStep; rw [if_neg hmod]
        obtain ⟨k, hk⟩ : ∃ k, k = acc.length - 1 := ⟨_, rfl⟩
        have hkl : k < acc.length := by omega
        have hkI : IntKind.i64.wrap ((acc.length : Int) - 1) = (k : Int) := by rw [IntWalk.i64_in _ (by omega)]; omega
        have HKI := Lib.hid hkI
        rw [← hk] at HST2
        obtain ⟨g5, cap5, hv5, hg5, hg5l, hcap1, hcap2, hcells⟩ := ho.out.slot hpos
        injection hv5 with e1 e2 e3
        subst e1 e3
        obtain ⟨⟨k1, k2, k3⟩, -⟩ := hcells k hkl
        have HB := HOK.out _ (bnOf_mem hkl)
        obtain ⟨y1, y2, y3, y4, y5⟩ := HB
        obtain ⟨d, hd⟩ : ∃ d, bnOf acc k = d := ⟨_, rfl⟩
        rw [hd] at k1 k2 k3 y1 y2 y3 y4 y5 HST2
        obtain ⟨w2, hw2'⟩ : ∃ w2, w2 = wr.alloc (.cells #[.int .i64 x, .int .i64 x, .int .i64 (x * x)] 46) := ⟨_, rfl⟩
        have hb2' : Below wr.heap.size wr w2 := by rw [hw2']; exact (Below.refl _ _).alloc (Nat.le_refl _) _
        have b1 : w2.cell? ⟨wr.heap.size, 0, none⟩ = some (.int .i64 x) := by rw [hw2']; simp [go_sem]
        have b2 : w2.cell? ⟨wr.heap.size, 1, none⟩ = some (.int .i64 x) := by rw [hw2']; simp [go_sem]
        have b3 : w2.cell? ⟨wr.heap.size, 2, none⟩ = some (.int .i64 (x * x)) := by rw [hw2']; simp [go_sem]
        have q1 := (hb2'.cell (p := ⟨g5, k * 3, none⟩) hg5l).trans k1
        have q2 := (hb2'.cell (p := ⟨g5, k * 3 + 1, none⟩) hg5l).trans k2
        have q3 := (hb2'.cell (p := ⟨g5, k * 3 + 2, none⟩) hg5l).trans k3
        have ho2 := Lib.hid (ho.out.below hb2')
        have HS2 := Lib.hid (hS.out.trans (hb2'.mono hsb))
        have hs2 : wr.heap.size < w2.heap.size := by rw [hw2']; simp
        have hk0 : (0 : Int) ≤ (k : Int) := by omega
        have hkn : (k : Int) < (acc.length : Int) := by omega
        have hg52 : g5 < w2.heap.size := by omega
        clear hd hk hcells k1 k2 k3
        go_wp2_with fail
        rw [← hw2']
        have hS9 : Below w2.heap.size w2 w2.drew ∧ (∀ z : Addr, z.block < w2.heap.size → w2.drew.cell? z = w2.cell? z) := ⟨(Below.refl _ _).drew, fun _ _ => rfl⟩
        have hSx := hS
        clear hw2' hS
        have hS := hS9
        refine wp_region_head 12 (fun w' => Below w2.heap.size w2 w' ∧ (∀ z : Addr, z.block < w2.heap.size → w'.cell? z = w2.cell? z)) (by kernel_rfl) (by kernel_rfl) ?_
        refine HL.take (i := 0) (oi := _) (v := ?_) rfl (by kernel_rfl) (by kernel_rfl) (by decide) (fun _ _ _ h => h) (Or.inl ⟨by rfl, ?_⟩) hS ?_
        rotate_left
        · intro wz hwz
          try dsimp only at hwz
          go_simp
          try with_reducible rfl
        simp only [Act.put, List.setIfInBounds_toArray, List.set_cons_zero, List.set_cons_succ]
        refine HL.take (i := 1) (oi := _) (v := ?_) rfl (by kernel_rfl) (by kernel_rfl) (by decide) (fun _ _ _ h => h) (Or.inl ⟨by rfl, ?_⟩) hS ?_
        rotate_left
        · intro wz hwz
          try dsimp only at hwz
          go_simp
          try with_reducible rfl
        simp only [Act.put, List.setIfInBounds_toArray, List.set_cons_zero, List.set_cons_succ]
        refine HL.take (i := 2) (oi := _) (v := ?_) rfl (by kernel_rfl) (by kernel_rfl) (by decide) (fun _ _ _ h => h) (Or.inl ⟨by rfl, ?_⟩) hS ?_
        rotate_left
        · intro wz hwz
          try dsimp only at hwz
          go_simp
          try with_reducible rfl
        simp only [Act.put, List.setIfInBounds_toArray, List.set_cons_zero, List.set_cons_succ]
        refine HL.take (i := 3) (oi := _) (v := .int .i64 (k : Int)) rfl (by kernel_rfl) (by kernel_rfl) (by decide) (fun _ _ _ h => h) (Or.inl ⟨by rfl, ?_⟩) hS ?_
        · intro wz hwz
          try dsimp only at hwz
          go_simp
          first | done | exact HKI.out | simp only [HKI.out]
        simp only [Act.put, List.setIfInBounds_toArray, List.set_cons_zero, List.set_cons_succ]
        refine HL.take (i := 4) (oi := _) (v := ?_) rfl (by kernel_rfl) (by kernel_rfl) (by decide) (fun _ _ _ h => h) (Or.inl ⟨by rfl, ?_⟩) hS ?_
        rotate_left
        · intro wz hwz
          try dsimp only at hwz
          go_simp
          try with_reducible rfl
        simp only [Act.put, List.setIfInBounds_toArray, List.set_cons_zero, List.set_cons_succ]
        refine HL.take (i := 5) (oi := _) (v := ?_) rfl (by kernel_rfl) (by kernel_rfl) (by decide) (fun _ _ _ h => h) (Or.inl ⟨by rfl, ?_⟩) hS ?_
        rotate_left
        · intro wz hwz
          try dsimp only at hwz
          go_simp
          try with_reducible rfl
        simp only [Act.put, List.setIfInBounds_toArray, List.set_cons_zero, List.set_cons_succ]
        refine HL.take (i := 6) (oi := _) (v := ?_) rfl (by kernel_rfl) (by kernel_rfl) (by decide) (fun _ _ _ h => h) (Or.inl ⟨by rfl, ?_⟩) hS ?_
        rotate_left
        · intro wz hwz
          try dsimp only at hwz
          go_simp
          try with_reducible rfl
        simp only [Act.put, List.setIfInBounds_toArray, List.set_cons_zero, List.set_cons_succ]
        refine HL.take (i := 7) (oi := _) (v := .int .i64 (k : Int)) rfl (by kernel_rfl) (by kernel_rfl) (by decide) (fun _ _ _ h => h) (Or.inl ⟨by rfl, ?_⟩) hS ?_
        · intro wz hwz
          try dsimp only at hwz
          go_simp
          first | done | exact HKI.out | simp only [HKI.out]
        simp only [Act.put, List.setIfInBounds_toArray, List.set_cons_zero, List.set_cons_succ]
        refine HL.take (i := 8) (oi := _) (v := ?_) rfl (by kernel_rfl) (by kernel_rfl) (by decide) (fun _ _ _ h => h) (Or.inl ⟨by rfl, ?_⟩) hS ?_
        rotate_left
        · intro wz hwz
          try dsimp only at hwz
          go_simp
          try with_reducible rfl
        simp only [Act.put, List.setIfInBounds_toArray, List.set_cons_zero, List.set_cons_succ]
        refine HL.take (i := 9) (oi := _) (v := ?_) rfl (by kernel_rfl) (by kernel_rfl) (by decide) (fun _ _ _ h => h) (Or.inl ⟨by rfl, ?_⟩) hS ?_
        rotate_left
        · intro wz hwz
          try dsimp only at hwz
          go_simp
          try with_reducible rfl
        simp only [Act.put, List.setIfInBounds_toArray, List.set_cons_zero, List.set_cons_succ]
        refine HL.take (i := 10) (oi := _) (v := ?_) rfl (by kernel_rfl) (by kernel_rfl) (by decide) (fun _ _ _ h => h) (Or.inl ⟨by rfl, ?_⟩) hS ?_
        rotate_left
        · intro wz hwz
          try dsimp only at hwz
          go_simp
          try with_reducible rfl
        simp only [Act.put, List.setIfInBounds_toArray, List.set_cons_zero, List.set_cons_succ]
        refine HL.one (i := 11) (o := _) rfl (by kernel_rfl) (by decide) (by rfl) ?_
        intro K hK
        go_simp
        refine (JOINED_any d (x, x, x * x) y4 s1 (by dsimp only; omega) _).mono ?_
        rintro e w7 ⟨rfl, hb7⟩
        have hS' := hS
        clear hS
        have hbS := Below.next hS'.1 (Nat.le_refl _) hb7
        have hS : Below w2.heap.size w2 w7 ∧ (∀ z : Addr, z.block < w2.heap.size → w7.cell? z = w2.cell? z) := ⟨hbS, pcell hbS⟩
        refine hK.out _ _ hS ?_
        try simp only [Act.put, List.setIfInBounds_toArray, List.set_cons_zero, List.set_cons_succ]
        clear hK K hS' hS hb7
        refine HL.done (by kernel_rfl) ?_
        try simp only [List.drop_succ_cons, List.drop_zero]
        go_simp
        have ho7 := ho2.out.below hbS
        obtain ⟨g6, cap6, hv6, hg6, hg6l, -, -, hcells6⟩ := ho7.slot hpos
        injection hv6 with e1 e2 e3
        injection e1 with e1
        injection e1 with e1
        subst e1 e3
        obtain ⟨⟨m1, m2, m3⟩, f1, f2, f3⟩ := hcells6 k hkl
        have HO8 := Lib.hid (ho7.set_ hkl (jnB d (x, x, x * x)))
        rw [← HST2.out] at HO8
        have hS7 : Below (w.heap.size + 1) W w7 := HS2.out.trans (hbS.mono (by have := HS2.out.size; omega))
        have HS8 := Lib.hid (((hS7.setCell (p := ⟨g5, k * 3, none⟩) hg5 (.int .i64 (jnB d (x, x, x * x)).1)).setCell (p := ⟨g5, k * 3 + 1, none⟩) hg5 (.int .i64 (jnB d (x, x, x * x)).2.1)).setCell (p := ⟨g5, k * 3 + 2, none⟩) hg5 (.int .i64 (jnB d (x, x, x * x)).2.2))
        clear hcells6 q1 q2 q3 b1 b2 b3 hbS ho7 hS7
        go_wp2_with fail
        go_roundw
        case rel => exact ⟨j + 1, by omega, by go_num, HS8, HO8⟩
        case measure => simp [intOf]; omega
    · obtain rfl : j = len0 xss := by omega
      go_wp2_with fail
      go_ret2
      exact ⟨_, rfl, own_base ho.out (by omega), hbW.trans (hS.out.mono (by omega))⟩
set_option maxHeartbeats 800000 in
theorem OVERVIEW_chk (r : Int) (A : Option Addr) (n c : Nat) (t b : Int) (xss : List (List Int)) (hc : chkS r xss ≠ 0) (w : World) (B : Nat) (hB : B ≤ w.heap.size) (hh : Hid (RowsAt w B A n xss)) :
    Calls Try.prog 28 #[.agg #[.int .i64 r, .slice A n c], .int .i64 t, .int .i64 b] w fun e w' => e = .returned (.tuple #[.slice none 0 0, .int .i64 (chkS r xss)]) ∧ Below w.heap.size w w' := by
  have hq : (chkS r xss != 0) = true := by simpa using hc
  clear hc
  go_enter Try.func28, Try.ntmps28
  go_wp2_with fail
  refine calls_later (w.heap.size + 1) ?_
  intro W hW hsW
  obtain ⟨hcW, hfW⟩ := bcell hW
  simp only [World.size_alloc] at hsW
  have hbW : Below w.heap.size w W := ((Below.refl _ w).alloc (Nat.le_refl _) _).trans (hW.mono (by omega))
  go_wp2_with (go_at_call 37; refine (CHECK_any r A n c xss _ B (by omega) (hh.out.below hbW hB)).mono ?_; rintro e w1 ⟨rfl, hb1⟩; have hz1 := pcell (hb1.mono hsW))
  go_ret2
  exact ⟨rfl, hbW.trans (hb1.mono (by omega))⟩
set_option maxHeartbeats 1600000 in
theorem OVERVIEW_bad (r : Int) (A : Option Addr) (n c : Nat) (t b : Int) (xss : List (List Int)) (hc : Hid (chkS r xss = 0)) (hbad : t < 0 ∨ (n : Int) ≤ t ∨ b < 1 ∨ 100000 < b) (w : World) (B : Nat) (hB : B ≤ w.heap.size) (hh : Hid (RowsAt w B A n xss)) :
    Calls Try.prog 28 #[.agg #[.int .i64 r, .slice A n c], .int .i64 t, .int .i64 b] w fun e w' => e = .returned (.tuple #[.slice none 0 0, .int .i64 1]) ∧ Below w.heap.size w w' := by
  have hq : (chkS r xss != 0) = false := by rw [hc.out]; rfl
  by_cases h1 : t < 0
  · have d1 : decide (t < 0) = true := by simpa using h1
    clear h1 hbad
    go_enter Try.func28, Try.ntmps28
    go_wp2_with fail
    refine calls_later (w.heap.size + 1) ?_
    intro W hW hsW
    obtain ⟨hcW, hfW⟩ := bcell hW
    simp only [World.size_alloc] at hsW
    have hbW : Below w.heap.size w W := ((Below.refl _ w).alloc (Nat.le_refl _) _).trans (hW.mono (by omega))
    go_wp2_with (go_at_call 37; refine (CHECK_any r A n c xss _ B (by omega) (hh.out.below hbW hB)).mono ?_; rintro e w1 ⟨rfl, hb1⟩; have hz1 := pcell (hb1.mono hsW))
    go_ret2
    exact ⟨rfl, hbW.trans (hb1.mono (by omega))⟩
  · have d1 : decide (t < 0) = false := by simpa using h1
    by_cases h2 : (n : Int) ≤ t
    · have d2 : decide ((n : Int) ≤ t) = true := by simpa using h2
      clear h1 h2 hbad
      go_enter Try.func28, Try.ntmps28
      go_wp2_with fail
      refine calls_later (w.heap.size + 1) ?_
      intro W hW hsW
      obtain ⟨hcW, hfW⟩ := bcell hW
      simp only [World.size_alloc] at hsW
      have hbW : Below w.heap.size w W := ((Below.refl _ w).alloc (Nat.le_refl _) _).trans (hW.mono (by omega))
      go_wp2_with (go_at_call 37; refine (CHECK_any r A n c xss _ B (by omega) (hh.out.below hbW hB)).mono ?_; rintro e w1 ⟨rfl, hb1⟩; have hz1 := pcell (hb1.mono hsW))
      go_ret2
      exact ⟨rfl, hbW.trans (hb1.mono (by omega))⟩
    · have d2 : decide ((n : Int) ≤ t) = false := by simpa using h2
      by_cases h3 : b < 1
      · have d3 : decide (b < 1) = true := by simpa using h3
        clear h1 h2 h3 hbad
        go_enter Try.func28, Try.ntmps28
        go_wp2_with fail
        refine calls_later (w.heap.size + 1) ?_
        intro W hW hsW
        obtain ⟨hcW, hfW⟩ := bcell hW
        simp only [World.size_alloc] at hsW
        have hbW : Below w.heap.size w W := ((Below.refl _ w).alloc (Nat.le_refl _) _).trans (hW.mono (by omega))
        go_wp2_with (go_at_call 37; refine (CHECK_any r A n c xss _ B (by omega) (hh.out.below hbW hB)).mono ?_; rintro e w1 ⟨rfl, hb1⟩; have hz1 := pcell (hb1.mono hsW))
        go_ret2
        exact ⟨rfl, hbW.trans (hb1.mono (by omega))⟩
      · have d3 : decide (b < 1) = false := by simpa using h3
        have d4 : decide (100000 < b) = true := by simp; omega
        clear h1 h2 h3 hbad
        go_enter Try.func28, Try.ntmps28
        go_wp2_with fail
        refine calls_later (w.heap.size + 1) ?_
        intro W hW hsW
        obtain ⟨hcW, hfW⟩ := bcell hW
        simp only [World.size_alloc] at hsW
        have hbW : Below w.heap.size w W := ((Below.refl _ w).alloc (Nat.le_refl _) _).trans (hW.mono (by omega))
        go_wp2_with (go_at_call 37; refine (CHECK_any r A n c xss _ B (by omega) (hh.out.below hbW hB)).mono ?_; rintro e w1 ⟨rfl, hb1⟩; have hz1 := pcell (hb1.mono hsW))
        go_ret2
        exact ⟨rfl, hbW.trans (hb1.mono (by omega))⟩
set_option maxHeartbeats 800000 in
theorem ROVERVIEW_chk (r : Int) (A : Option Addr) (n c : Nat) (t b : Int) (xss : List (List Int)) (hc : chkS r xss ≠ 0) (w : World) (B : Nat) (hB : B ≤ w.heap.size) (hh : Hid (RowsAt w B A n xss)) :
    Calls Try.prog 29 #[.agg #[.int .i64 r, .slice A n c], .int .i64 t, .int .i64 b] w fun e w' => e = .returned (.tuple #[.slice none 0 0, .int .i64 (chkS r xss)]) ∧ Below w.heap.size w w' := by
  have hq : (chkS r xss != 0) = true := by simpa using hc
  clear hc
  go_enter Try.func29, Try.ntmps29
  go_wp2_with fail
  refine calls_later (w.heap.size + 1) ?_
  intro W hW hsW
  obtain ⟨hcW, hfW⟩ := bcell hW
  simp only [World.size_alloc] at hsW
  have hbW : Below w.heap.size w W := ((Below.refl _ w).alloc (Nat.le_refl _) _).trans (hW.mono (by omega))
  go_wp2_with (go_at_call 38; refine (RCHECK_any r A n c xss _ B (by omega) (hh.out.below hbW hB)).mono ?_; rintro e w1 ⟨rfl, hb1⟩; have hz1 := pcell (hb1.mono hsW))
  go_ret2
  exact ⟨rfl, hbW.trans (hb1.mono (by omega))⟩
set_option maxHeartbeats 1600000 in
theorem ROVERVIEW_bad (r : Int) (A : Option Addr) (n c : Nat) (t b : Int) (xss : List (List Int)) (hc : Hid (chkS r xss = 0)) (hbad : t < 0 ∨ (n : Int) ≤ t ∨ b < 1 ∨ 100000 < b) (w : World) (B : Nat) (hB : B ≤ w.heap.size) (hh : Hid (RowsAt w B A n xss)) :
    Calls Try.prog 29 #[.agg #[.int .i64 r, .slice A n c], .int .i64 t, .int .i64 b] w fun e w' => e = .returned (.tuple #[.slice none 0 0, .int .i64 1]) ∧ Below w.heap.size w w' := by
  have hq : (chkS r xss != 0) = false := by rw [hc.out]; rfl
  by_cases h1 : t < 0
  · have d1 : decide (t < 0) = true := by simpa using h1
    clear h1 hbad
    go_enter Try.func29, Try.ntmps29
    go_wp2_with fail
    refine calls_later (w.heap.size + 1) ?_
    intro W hW hsW
    obtain ⟨hcW, hfW⟩ := bcell hW
    simp only [World.size_alloc] at hsW
    have hbW : Below w.heap.size w W := ((Below.refl _ w).alloc (Nat.le_refl _) _).trans (hW.mono (by omega))
    go_wp2_with (go_at_call 38; refine (RCHECK_any r A n c xss _ B (by omega) (hh.out.below hbW hB)).mono ?_; rintro e w1 ⟨rfl, hb1⟩; have hz1 := pcell (hb1.mono hsW))
    go_ret2
    exact ⟨rfl, hbW.trans (hb1.mono (by omega))⟩
  · have d1 : decide (t < 0) = false := by simpa using h1
    by_cases h2 : (n : Int) ≤ t
    · have d2 : decide ((n : Int) ≤ t) = true := by simpa using h2
      clear h1 h2 hbad
      go_enter Try.func29, Try.ntmps29
      go_wp2_with fail
      refine calls_later (w.heap.size + 1) ?_
      intro W hW hsW
      obtain ⟨hcW, hfW⟩ := bcell hW
      simp only [World.size_alloc] at hsW
      have hbW : Below w.heap.size w W := ((Below.refl _ w).alloc (Nat.le_refl _) _).trans (hW.mono (by omega))
      go_wp2_with (go_at_call 38; refine (RCHECK_any r A n c xss _ B (by omega) (hh.out.below hbW hB)).mono ?_; rintro e w1 ⟨rfl, hb1⟩; have hz1 := pcell (hb1.mono hsW))
      go_ret2
      exact ⟨rfl, hbW.trans (hb1.mono (by omega))⟩
    · have d2 : decide ((n : Int) ≤ t) = false := by simpa using h2
      by_cases h3 : b < 1
      · have d3 : decide (b < 1) = true := by simpa using h3
        clear h1 h2 h3 hbad
        go_enter Try.func29, Try.ntmps29
        go_wp2_with fail
        refine calls_later (w.heap.size + 1) ?_
        intro W hW hsW
        obtain ⟨hcW, hfW⟩ := bcell hW
        simp only [World.size_alloc] at hsW
        have hbW : Below w.heap.size w W := ((Below.refl _ w).alloc (Nat.le_refl _) _).trans (hW.mono (by omega))
        go_wp2_with (go_at_call 38; refine (RCHECK_any r A n c xss _ B (by omega) (hh.out.below hbW hB)).mono ?_; rintro e w1 ⟨rfl, hb1⟩; have hz1 := pcell (hb1.mono hsW))
        go_ret2
        exact ⟨rfl, hbW.trans (hb1.mono (by omega))⟩
      · have d3 : decide (b < 1) = false := by simpa using h3
        have d4 : decide (100000 < b) = true := by simp; omega
        clear h1 h2 h3 hbad
        go_enter Try.func29, Try.ntmps29
        go_wp2_with fail
        refine calls_later (w.heap.size + 1) ?_
        intro W hW hsW
        obtain ⟨hcW, hfW⟩ := bcell hW
        simp only [World.size_alloc] at hsW
        have hbW : Below w.heap.size w W := ((Below.refl _ w).alloc (Nat.le_refl _) _).trans (hW.mono (by omega))
        go_wp2_with (go_at_call 38; refine (RCHECK_any r A n c xss _ B (by omega) (hh.out.below hbW hB)).mono ?_; rintro e w1 ⟨rfl, hb1⟩; have hz1 := pcell (hb1.mono hsW))
        go_ret2
        exact ⟨rfl, hbW.trans (hb1.mono (by omega))⟩
/-- what Overview returns -/
def ovS (r : Int) (xss : List (List Int)) (t b : Int) : List Bn × Int :=
  if chkS r xss ≠ 0 then ([], chkS r xss) else if t < 0 ∨ (xss.length : Int) ≤ t ∨ b < 1 ∨ 100000 < b then ([], 1) else (ovK b.toNat (rowOf xss t.toNat) (len0 xss), 0)
theorem OVERVIEW_any (r : Int) (A : Option Addr) (n c : Nat) (t b : Int) (xss : List (List Int)) (w : World) (B : Nat) (hB : B ≤ w.heap.size) (hh : RowsAt w B A n xss) :
    Calls Try.prog 28 #[.agg #[.int .i64 r, .slice A n c], .int .i64 t, .int .i64 b] w fun e w' => ∃ v, e = .returned (.tuple #[v, .int .i64 (ovS r xss t b).2]) ∧ OwnBns w' w.heap.size v (ovS r xss t b).1 ∧ Below w.heap.size w w' := by
  unfold ovS
  by_cases hc : chkS r xss = 0
  · have hok := chkS_ok hc
    have hl := hh.1
    have hn : 0 < n := by have := hok.some; omega
    obtain ⟨ad, rfl⟩ := hh.addr hn
    rw [if_neg (by simp [hc])]
    by_cases hb : t < 0 ∨ (xss.length : Int) ≤ t ∨ b < 1 ∨ 100000 < b
    · rw [if_pos hb]
      rw [hl] at hb
      exact (OVERVIEW_bad r (some ad) n c t b xss hc hb w B hB hh).mono fun e w' ⟨h1, h2⟩ => ⟨_, h1, World.ownsRow_nil _ _ _ _, h2⟩
    · rw [if_neg hb]
      obtain ⟨t', rfl⟩ := Int.eq_ofNat_of_zero_le (show 0 ≤ t by omega)
      obtain ⟨b', rfl⟩ := Int.eq_ofNat_of_zero_le (show 0 ≤ b by omega)
      exact OVERVIEW_ok r ad n c t' b' xss hc hok (by omega) (by omega) (by omega) w B hB hh
  · rw [if_pos hc]
    exact (OVERVIEW_chk r A n c t b xss hc w B hB hh).mono fun e w' ⟨h1, h2⟩ => ⟨_, h1, World.ownsRow_nil _ _ _ _, h2⟩
end Go.Proofs.Ytpnbkkpbgpcgiaa
