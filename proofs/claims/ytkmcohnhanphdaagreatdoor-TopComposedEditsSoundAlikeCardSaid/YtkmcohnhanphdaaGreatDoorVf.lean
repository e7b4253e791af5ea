/- Render's function value: one sample more. -/
import Derived.Test.YtkmcohnhanphdaaGreatDoorVc
import Derived.Test.YtkmcohnhanphdaaGreatDoorVa
import Derived.Test.YtkmcohnhanphdaaGreatDoorVe
import Derived.Test.YtkmcohnhanphdaaGreatDoorVd
set_option linter.unusedSimpArgs false
set_option linter.unusedVariables false
namespace Go.Proofs.YtkmcohnhanphdaaGreatDoor
open Go.RowKit Go.Dw
attribute [local go_sem ↓] Go.wp_at_zero Go.wp_at_succ
theorem updP_zero {qs : Nat → Rat} {p : Nat} {q : Rat} (h : q = 0) : updP qs p (qs p + q) = qs := by
  funext i
  unfold updP
  by_cases hi : i = p
  · rw [if_pos hi, h, Rat.add_zero, hi]
  · rw [if_neg hi]
theorem el_memQ {xs : List Int} {k : Nat} (hk : k < xs.length) : elOf xs k ∈ xs := by simp [elOf, List.getD, List.getElem?_eq_getElem hk]
theorem updP_ge {K : Nat → Nat} {p a i : Nat} : K i ≤ updP K p (K p + a) i := by
  unfold updP
  by_cases h : i = p
  · rw [if_pos h, h]; omega
  · rw [if_neg h]; exact Nat.le_refl _
theorem mkRat_mul_int (z s : Int) (x : Nat) (hx : 0 < x) : mkRat (z * s) x = mkRat z x * (s : Rat) := by
  have : (s : Rat) = mkRat s 1 := by rw [Rat.mkRat_one]
  rw [this, Rat.mkRat_mul_mkRat, Nat.mul_one]
theorem MixJ.more {gm g n cap base : Nat} {K K' : Nat → Nat} {qs : Nat → Rat} {w : World} (h : MixJ gm g n cap base K qs w) (hK : ∀ i, K i ≤ K' i) : MixJ gm g n cap base K' qs w := by
  obtain ⟨ls, h1, h2, h3⟩ := h.own
  exact ⟨h.box, h.ty, ls, h1, h2, fun i hi => (h3 i hi).le (hK i)⟩
set_option maxRecDepth 100000 in
set_option maxHeartbeats 4000000 in
theorem ERENDER1_any (gs gc gm g n cap base L i : Nat) (K0 : Nat → Nat) (qs : Nat → Rat) (c : Cp) (v : Value) (As : Option Addr) (ns cs : Nat) (xs : List Int) (neg : Bool) (A D : Option Addr) (n1 c1 m d : Nat) (z : Int) (x : Nat) (hx : 0 < x) (hn1 : n1 ≤ 20000) (hm : m ≤ 20000) (hn : n ≤ 1000000)
    (f0 : 0 ≤ c.from_) (f1 : c.from_ ≤ 100000000000000) (a0 : 0 ≤ c.at_) (p : Nat) (hp : c.at_ + i = (p : Int)) (hpn : p < n) (j : Nat) (hj : c.from_ + i = (j : Int)) (hjn : j < ns) (hi : i ≤ 1000000) (hK0 : K0 p ≤ 8000000) (hsm : Hid (∀ x ∈ xs, smpB x = true))
    (w : World) (B : Nat) (hBw : B ≤ w.heap.size) (hs : Hid (w.heap[gs]? = some (.cells #[.slice As ns cs] 42 (0, 0)))) (hc : Hid (w.heap[gc]? = some (.cells #[.string c.media, .int .i64 c.chan, .int .i64 c.from_, .int .i64 c.track, .int .i64 c.at_, .int .i64 c.len, v] 58 (0, 0)))) (hxs : Hid (IntsAt w B As ns xs))
    (hJ : Hid (MixJ gm g n cap base K0 qs w)) (hv : Hid (RawAt w w.heap.size neg A n1 c1 D m d z x)) (hgs : gs ≠ g) (hgc : gc ≠ g) :
    Calls Tryz.prog 28 #[.int .i64 (i : Int), .agg #[.bool neg, .slice A n1 c1], .slice D m d, .pointer (some ⟨gs, 0, none⟩), .pointer (some ⟨gc, 0, none⟩), .pointer (some ⟨gm, 0, none⟩)] w fun e w' => e = .returned (.tuple #[]) ∧ MixJ gm g n cap base (updP K0 p (K0 p + 20003)) (updP qs p (qs p + mkRat z x * ((elOf xs j : Int) : Rat))) w' ∧ Alt g (g + 1) w w' := by
  have hl := Lib.hid hxs.out.1
  obtain ⟨W, g7, hW, hg7, HG, HBW, HSW⟩ := cell_new w 82 #[.bool neg, .slice A n1 c1]
  obtain ⟨y0, y1, _, _⟩ := two_cells HG.out
  have hg7W := blk_lt HG.out
  have HG7 := Lib.hid hg7
  obtain ⟨ad, rfl, hadB, hcx⟩ := (hxs.out.below HBW.out hBw).2 j hjn
  have hsW := Lib.hid ((HBW.out.block gs (blk_lt hs.out)).trans hs.out)
  have hcW := Lib.hid ((HBW.out.block gc (blk_lt hc.out)).trans hc.out)
  have hgcW := blk_lt hcW.out
  have hcs : W.cell? ⟨gs, 0, none⟩ = some (.slice (some ad) ns cs) := by rw [own_cell1 hsW.out 0]; rfl
  obtain ⟨_, _, q2, _, q4, _, _⟩ := seven_cells hcW.out
  have HSX := Lib.hid (smpB_yes (hsm.out _ (el_memQ (xs := xs) (k := j) (by rw [hl.out]; exact hjn))))
  obtain ⟨s, hsx⟩ : ∃ s, elOf xs j = s := ⟨_, rfl⟩
  rw [hsx] at hcx HSX ⊢
  have hs1 := HSX.out
  have hJW : Hid (MixJ gm g n cap base K0 qs W) := hJ.out.below HBW.out
  have HVW : Hid (RawAt W W.heap.size neg A n1 c1 D m d z x) := hv.out.to HBW.out (Nat.le_refl _) HBW.out.size
  have hj0 : (0 : Int) ≤ (j : Int) := by omega
  have hjni : (j : Int) < (ns : Int) := by omega
  have hwj : IntKind.i64.wrap (c.from_ + (i : Int)) = (j : Int) := by rw [IntWalk.i64_in _ (by omega)]; exact hj
  have hwp : IntKind.i64.wrap (c.at_ + (i : Int)) = (p : Int) := by rw [IntWalk.i64_in _ (by omega)]; exact hp
  have hwp2 : IntKind.i64.wrap (p : Int) = (p : Int) := by rw [← hp]; rw [hwp]; exact hp.symm
  have hne7 : g7 ≠ g := by have := hJ.out.lt; have := HG7.out; omega
  clear hsx hJ hv
  go_enter Tryz.func28, Tryz.ntmps28
  go_upto_region 1 with (fail)
  rw [← hW, ← hg7]
  clear hW hg7
  go_upto_region 2 with (fail)
  clear hcx hcs q2
  by_cases hs0 : s = 0
  · subst hs0
    have hd1 : ((0 : Int) != 0) = false := by simp
    go_wp2_with fail
    refine bodyPost_end (v := .tuple #[]) (by simp [results, Tryz.results28, go_sem]) rfl ?_
    refine ⟨rfl, ?_, Alt.of_below HBW.out⟩
    rw [updP_zero (by rw [show ((0 : Int) : Rat) = 0 from rfl, Rat.mul_zero])]
    exact hJW.out.more (fun i => updP_ge)
  · have hd1 : (s != 0) = true := by simpa using hs0
    go_wp2_with fail
    refine (ISIGN_any neg A n1 c1 z W W.heap.size (Lib.hid HVW.out.1)).mono ?_
    rintro e w1 ⟨rfl, hb1⟩
    have y0 := (hb1.cell (p := ⟨g7, 0, none⟩) hg7W).trans y0
    have y1 := (hb1.cell (p := ⟨g7, 1, none⟩) hg7W).trans y1
    have q4 := (hb1.cell (p := ⟨gc, 4, none⟩) hgcW).trans q4
    have hJ1 : Hid (MixJ gm g n cap base K0 qs w1) := hJW.out.below hb1
    have HV1 : Hid (RawAt w1 w1.heap.size neg A n1 c1 D m d z x) := HVW.out.to hb1 (Nat.le_refl _) hb1.size
    have HB1 := Lib.hid (HBW.out.trans (hb1.mono HBW.out.size))
    have hg71 := Nat.lt_of_lt_of_le hg7W hb1.size
    have hgc1 := Nat.lt_of_lt_of_le hgcW hb1.size
    clear hb1 hd1
    by_cases hz0 : z = 0
    · have hd1 : (z.sign != 0) = false := by rw [hz0]; rfl
      have HZ : Hid (mkRat z x * (s : Rat) = 0) := by show _ = _; rw [hz0, Rat.zero_mkRat, Rat.zero_mul]
      clear hz0
      go_wp2_with fail
      refine bodyPost_end (v := .tuple #[]) (by simp [results, Tryz.results28, go_sem]) rfl ?_
      refine ⟨rfl, ?_, Alt.of_below HB1.out⟩
      rw [updP_zero HZ.out]
      exact hJ1.out.more (fun i => updP_ge)
    · have hd1 : (z.sign != 0) = true := by simpa using fun h => hz0 (Int.sign_eq_zero_iff_zero.1 h)
      clear hz0
      go_wp2_with fail
      obtain ⟨X, rfl⟩ : ∃ Wx : World, Wx = w1 := ⟨_, rfl⟩
      refine wp_region_text 10 (fun x9 => x9.cell? ⟨gc, 4, none⟩ = some (.int .i64 c.at_) ∧ x9.cell? ⟨g7, 0, none⟩ = some (.bool neg) ∧ x9.cell? ⟨g7, 1, none⟩ = some (.slice A n1 c1)) (by kernel_rfl) (by kernel_rfl) ?_
      have hS : X.drew.cell? ⟨gc, 4, none⟩ = some (.int .i64 c.at_) ∧ X.drew.cell? ⟨g7, 0, none⟩ = some (.bool neg) ∧ X.drew.cell? ⟨g7, 1, none⟩ = some (.slice A n1 c1) := ⟨q4, y0, y1⟩
      have hS0 := And.intro q4 (And.intro y0 y1)
      refine HT.take (i := 0) (oi := _) (v := ?_) rfl (by kernel_rfl) (by kernel_rfl) (by decide) (fun _ _ _ h => h) (Or.inl ⟨by rfl, ?_⟩) hS ?_
      rotate_left
      · intro wz
        go_simp
        try with_reducible rfl
      simp only [zA, zB, zC, Act.put, zD, zE, zF]
      refine HT.load (i := 1) (oi := _) (v := ?_) rfl (by kernel_rfl) (by kernel_rfl) (by decide) (fun _ _ _ h => h) (by kernel_rfl) (Or.inl ⟨by rfl, ?_⟩) hS ?_
      rotate_left
      · intro wz hwz
        try dsimp only at hwz
        go_simp
        try with_reducible rfl
      simp only [zA, zB, zC, Act.put, zD, zE, zF]
      refine HT.take (i := 2) (oi := _) (v := ?_) rfl (by kernel_rfl) (by kernel_rfl) (by decide) (fun _ _ _ h => h) (Or.inl ⟨by rfl, ?_⟩) hS ?_
      rotate_left
      · intro wz
        go_simp
        try with_reducible rfl
      simp only [zA, zB, zC, Act.put, zD, zE, zF]
      refine HT.take (i := 3) (oi := _) (v := ?_) rfl (by kernel_rfl) (by kernel_rfl) (by decide) (fun _ _ _ h => h) (Or.inl ⟨by rfl, ?_⟩) hS ?_
      rotate_left
      · intro wz
        go_simp
        try with_reducible rfl
      simp only [zA, zB, zC, Act.put, zD, zE, zF]
      refine HT.load (i := 4) (oi := _) (v := ?_) rfl (by kernel_rfl) (by kernel_rfl) (by decide) (fun _ _ _ h => h) (by kernel_rfl) (Or.inl ⟨by rfl, ?_⟩) hS ?_
      rotate_left
      · intro wz hwz
        try dsimp only at hwz
        go_simp
        try with_reducible rfl
      simp only [zA, zB, zC, Act.put, zD, zE, zF]
      refine HT.take (i := 5) (oi := _) (v := ?_) rfl (by kernel_rfl) (by kernel_rfl) (by decide) (fun _ _ _ h => h) (Or.inl ⟨by rfl, ?_⟩) hS ?_
      rotate_left
      · intro wz
        go_simp
        try with_reducible rfl
      simp only [zA, zB, zC, Act.put, zD, zE, zF]
      refine HT.take (i := 8) (oi := _) (v := ?_) rfl (by kernel_rfl) (by kernel_rfl) (by decide) (fun _ _ _ h => h) (Or.inl ⟨by rfl, ?_⟩) hS ?_
      rotate_left
      · intro wz
        go_simp
        try with_reducible rfl
      simp only [zA, zB, zC, Act.put, zD, zE, zF]
      refine HT.one (i := 6) (o := _) rfl (by kernel_rfl) (by decide) (by rfl) ?_
      intro K hK
      go_simp
      refine (IOF_any s (by omega) (by omega) _).mono ?_
      rintro e w2 ⟨ng2, A2, n2, c2, rfl, h2, hk2, hb2⟩
      replace hb2 : Below X.heap.size X w2 := below_undrew hb2
      have H2 := Lib.hid h2
      have HB2 := Lib.hid hb2
      clear h2 hb2
      refine hK.out _ _ (three_keep hS0 HB2.out hgc1 hg71 hg71) ?_
      clear hK K hS
      have hS := three_keep hS0 HB2.out hgc1 hg71 hg71
      try simp only [zA, zB, zC, Act.put, zD, zE, zF]
      refine HT.one (i := 7) (o := _) rfl (by kernel_rfl) (by decide) (by rfl) ?_
      intro K hK
      go_simp
      refine (IMUL_any neg ng2 A A2 n1 c1 n2 c2 z s (by omega) (by omega) _ w2.heap.size (Nat.le_refl _) (Lib.hid (HV1.out.1.to HB2.out (Nat.le_refl _) HB2.out.size)) H2).mono ?_
      rintro e w3 ⟨ng3, A3, n3, c3, rfl, h3, hk3, hb3⟩
      have H3 := Lib.hid h3
      have HB3 := Lib.hid (HB2.out.trans (hb3.mono HB2.out.size))
      clear h3 hb3
      refine hK.out _ _ (three_keep hS0 HB3.out hgc1 hg71 hg71) ?_
      clear hK K hS
      have hS := three_keep hS0 HB3.out hgc1 hg71 hg71
      try simp only [zA, zB, zC, Act.put, zD, zE, zF]
      have hJ3 : Hid (MixJ gm g n cap base K0 qs w3) := hJ1.out.below HB3.out
      refine HT.one (i := 9) (o := _) rfl (by kernel_rfl) (by decide) (by rfl) ?_
      intro K hK
      go_simp
      refine (MIXADD_any gm g n cap base 20002 K0 qs p hpn ng3 A3 D n3 c3 m d (z * s) x hx (by omega) (by omega) (by omega) hK0 hn _ hJ3 (Lib.hid ⟨H3.out, HV1.out.2.to HB3.out (Nat.le_refl _) HB3.out.size⟩)).mono ?_
      rintro e w4 ⟨rfl, hJ4, hA4⟩
      have HJ4 := Lib.hid hJ4
      have HA4 := Lib.hid ((Alt.of_below (HB1.out.trans (HB3.out.mono HB1.out.size))).trans hA4)
      have hk4 : ∀ k, k < X.heap.size → k ≠ g → w4.heap[k]? = X.heap[k]? := fun k hk hne => (hA4.block k (Nat.lt_of_lt_of_le hk HB3.out.size) (by omega)).trans (HB3.out.block k hk)
      have hS4 : w4.cell? ⟨gc, 4, none⟩ = some (.int .i64 c.at_) ∧ w4.cell? ⟨g7, 0, none⟩ = some (.bool neg) ∧ w4.cell? ⟨g7, 1, none⟩ = some (.slice A n1 c1) :=
        ⟨(World.cell?_of_block (w := X) (a := ⟨gc, 4, none⟩) (hk4 gc hgc1 hgc)).trans hS0.1, (World.cell?_of_block (w := X) (a := ⟨g7, 0, none⟩) (hk4 g7 hg71 hne7)).trans hS0.2.1, (World.cell?_of_block (w := X) (a := ⟨g7, 1, none⟩) (hk4 g7 hg71 hne7)).trans hS0.2.2⟩
      refine hK.out _ _ hS4 ?_
      clear hK K hS
      have hS := hS4
      try simp only [zA, zB, zC, Act.put, zD, zE, zF]
      refine HT.done (by kernel_rfl) ?_
      clear hS
      simp only [List.drop_succ_cons, List.drop_zero]
      go_wp2_with fail
      refine bodyPost_end (v := .tuple #[]) (by simp [results, Tryz.results28, go_sem]) rfl ?_
      rw [← mkRat_mul_int z s x hx]
      exact ⟨rfl, HJ4.out, HA4.out⟩
end Go.Proofs.YtkmcohnhanphdaaGreatDoor
/- Before Render: making the sums, one row more, what a right edit is. -/
namespace Go.Proofs.YtkmcohnhanphdaaGreatDoor
open Go.RowKit Go.Dw
theorem mkRats (n : Nat) (hn : n ≤ 1000000000) (W : World) : (Instr.makeSlice 74 (.int .i64 (n : Int)) (.int .i64 (n : Int))).run Tryz.prog W = .ok (.slice (some ⟨W.heap.size, 0, none⟩) n n) (W.alloc (.cells (madeCells #[.bool false, .slice none 0 0, .slice none 0 0] (n * 3)) 88)) := by
  have hinf : (Tryz.prog.info? 88).map (fun i => (i.zero, i.size, i.bytes)) = some (some (.agg #[.bool false, .slice none 0 0, .slice none 0 0]), 3, 56) := by kernel_rfl
  obtain ⟨i0, hi, hz, hs, hb⟩ := info_parts hinf
  have hr := run_make (P := Tryz.prog) W 74 88 i0 _ Tryz.underlying74 hi hz .i64 .i64 n n (by omega) (Int.le_refl _) (by rw [hb]; omega) (by omega)
  simp only [Int.toNat_natCast, hs] at hr
  exact hr
def nil3 : List Value := [.bool false, .slice none 0 0, .slice none 0 0]
theorem made3 (n : Nat) : (madeCells #[.bool false, .slice none 0 0, .slice none 0 0] (n * 3)).toList = (List.replicate n nil3).flatten := by
  have hk : ∀ l ∈ List.replicate n nil3, l.length = 3 := fun l hl => by rw [List.eq_of_mem_replicate hl]; rfl
  apply List.ext_getElem?
  intro j
  by_cases hj : j < n * 3
  · have e : j = j / 3 * 3 + j % 3 := by omega
    have hq : j / 3 < n := by omega
    rw [e, flat_get hk (by simpa using hq) (by omega)]
    have hr : recOf (List.replicate n nil3) (j / 3) = nil3 := by simp [recOf, List.getD, hq]
    rw [hr, ← e]
    have h3 : j % 3 = 0 ∨ j % 3 = 1 ∨ j % 3 = 2 := by omega
    rcases h3 with h3 | h3 | h3 <;> simp [madeCells, hj, h3, nil3]
  · rw [List.getElem?_eq_none (by simp [madeCells]; omega), List.getElem?_eq_none (by rw [flat_length hk, List.length_replicate]; omega)]
theorem MixJ.made (w : World) (n : Nat) (hn : n ≤ 1000000000) : MixJ (w.heap.size + 1) w.heap.size n n w.heap.size (fun _ => 0) (fun _ => 0) ((w.alloc (.cells (madeCells #[.bool false, .slice none 0 0, .slice none 0 0] (n * 3)) 88)).alloc (.cells #[.slice (some ⟨w.heap.size, 0, none⟩) n n] 77)) := by
  have hl := World.ownsRow_lit (base := w.heap.size) (size := 3) (e := 88) w (madeCells #[.bool false, .slice none 0 0, .slice none 0 0] (n * 3)) n (Nat.le_refl _) (by unfold maxLen; omega) (size_madeCells _ _)
  rw [made3] at hl
  have ho : OwnK 3 88 (w.alloc (.cells (madeCells #[.bool false, .slice none 0 0, .slice none 0 0] (n * 3)) 88)) w.heap.size (.slice (some ⟨w.heap.size, 0, none⟩) n n) (List.replicate n nil3) :=
    ⟨fun l hl => by rw [List.eq_of_mem_replicate hl]; rfl, by rw [List.length_replicate]; exact hl⟩
  have hb := heap_alloc_new w (.cells (madeCells #[.bool false, .slice none 0 0, .slice none 0 0] (n * 3)) 88)
  refine ⟨?_, ⟨_, _, (Below.heap_alloc _ _ _ (by simp)).trans hb⟩, _, ho.alloc _, List.length_replicate .., fun i hi => ?_⟩
  · have := heap_alloc_new (w.alloc (.cells (madeCells #[.bool false, .slice none 0 0, .slice none 0 0] (n * 3)) 88)) (.cells #[.slice (some ⟨w.heap.size, 0, none⟩) n n] 77)
    rwa [World.size_alloc] at this
  · refine ⟨false, none, 0, 0, none, 0, 0, ?_, Nat.le_refl _, Nat.le_refl _, .inl ⟨rfl, rfl⟩⟩
    simp [recOf, List.getD, hi, nil3]
theorem wpList_push_row {ops : Array Oper} {rest : List Oper} {o : Oper} {a : Act} {Q : Exit → Act → World → Prop} {w0 : World} (hgd : o.guard = none) (s x : Operand)
    (ho : o.op = .call { callee := .builtin .append, args := #[s, x], argTypes := #[31, 31] }) (base : Nat) (V : Value) (n : Nat) (rows : List Value) (r : Value) (h1 : r.oneCell' = true) (g0 : Nat) (hg0 : w0.heap.size = g0)
    (hs : a.eval s = V) (hx : a.eval x = .slice (some ⟨g0, 0, none⟩) 1 1) (hown : w0.ownsRow base 42 1 V n rows) (hn : n ≤ 1000000000) (hb : base ≤ w0.heap.size)
    (h : ∀ g cap w', w'.ownsRow base 42 1 (.slice (some ⟨g, 0, none⟩) (n + 1) cap) (n + 1) (rows ++ [r]) → (w0.alloc (.cells #[r] 42)).grownBy w' V.ownBlock → wpList Tryz.prog ops Q rest (a.put o.dst (.slice (some ⟨g, 0, none⟩) (n + 1) cap)) w') :
    wpList Tryz.prog ops Q (o :: rest) a (w0.alloc (.cells #[r] 42)) := by
  obtain ⟨i1, e0, e1, e2, e3⟩ := info_parts ints_info
  subst hg0
  refine wpList_append_lies _ hgd s x 31 ho base 42 i1 _ 1 24 Tryz.underlying31 e0 e1 e2 e3 rfl (by omega) V n rows hs (hown.alloc _) ⟨w0.heap.size, 0, none⟩ 1 1 [r] hx rfl (cell_one_new _ _ _) (by intro z hz; simp at hz; subst hz; exact h1) (by omega) (by simp only [maxLen]; omega) (by omega) (by simp; omega) _ rfl ?_
  intro g cap w' h1 h2 _ _
  exact h g cap w' h1 h2
structure EditOk (rate tracks : Int) (cs : List Cp) : Prop where
  rate_ : rateB rate = true
  t1 : 1 ≤ tracks
  t2 : tracks ≤ 16
  few : cs.length ≤ 300
  rng : ∀ c ∈ cs, rangeC c tracks
  env : ∀ c ∈ cs, EnvOk c.len c.env
theorem chkCL_ok {tracks : Int} : ∀ (l : List Cp) (prev : Option Cp), chkCL tracks prev l = 0 → ∀ c ∈ l, clipF c tracks = 0
  | [], _, _, c, hc => by simp at hc
  | d :: l, prev, h, c, hc => by
    rw [chkCL] at h
    by_cases h0 : chkC tracks prev d = 0
    · rw [if_neg (by simp [h0])] at h
      rcases List.mem_cons.1 hc with rfl | hc
      · unfold chkC at h0
        by_cases h1 : clipF c tracks = 0
        · exact h1
        · rw [if_pos h1] at h0; exact absurd h0 h1
      · exact chkCL_ok l _ h c hc
    · rw [if_pos h0] at h; exact absurd h h0
theorem clipF_ok {c : Cp} {tracks : Int} (h : clipF c tracks = 0) : rangeC c tracks ∧ EnvOk c.len c.env := by
  unfold clipF at h
  by_cases h1 : nameN c.media.data.toList = false
  · rw [if_pos h1] at h; omega
  rw [if_neg h1] at h
  by_cases h2 : rangeC c tracks
  · rw [if_neg (by simpa using h2)] at h; exact ⟨h2, envF_ok h⟩
  · rw [if_pos h2] at h; omega
theorem chkE_ok {rate tracks : Int} {cs : List Cp} (h : chkE rate tracks cs = 0) : EditOk rate tracks cs := by
  unfold chkE at h
  by_cases h1 : rateB rate = false ∨ tracks < 1 ∨ 16 < tracks
  · rw [if_pos h1] at h; omega
  rw [if_neg h1] at h
  by_cases h2 : 300 < cs.length
  · rw [if_pos h2] at h; omega
  rw [if_neg h2] at h
  have h3 := chkCL_ok cs none h
  refine ⟨by cases hr : rateB rate with | true => rfl | false => exact absurd (.inl hr) h1, by omega, by omega, by omega, fun c hc => (clipF_ok (h3 c hc)).1, fun c hc => (clipF_ok (h3 c hc)).2⟩
theorem EditOk.end_ {rate tracks : Int} {cs : List Cp} (h : EditOk rate tracks cs) : endC cs ≤ 100000 := by
  have : ∀ k, k ≤ cs.length → endC (cs.take k) ≤ 100000 := by
    intro k
    induction k with
    | zero => intro _; simp [endC]
    | succ k ih =>
      intro hk
      rw [endC_take (by omega)]
      have h1 := h.rng _ (cp_mem (l := cs) (k := k) (by omega))
      unfold rangeC at h1
      have := ih (by omega)
      omega
  have h2 := this cs.length (Nat.le_refl _)
  rwa [List.take_of_length_le (Nat.le_refl _)] at h2
def addC (l : List Md) (c : Cp) (i : Nat) (p : Nat) : Rat := if c.at_ ≤ (p : Int) ∧ (p : Int) < c.at_ + i then envV c.env ((p : Int) - c.at_) * ((elOf (trackOf l c.media c.chan) (c.from_ + ((p : Int) - c.at_)).toNat : Int) : Rat) else 0
theorem addC_all {l : List Md} {c : Cp} {t : Int} (ht : c.track = t) {i : Nat} (hi : (i : Int) = min c.len (max 0 (((trackOf l c.media c.chan).length : Int) - c.from_))) (p : Nat) : addC l c i p = conC l t (p : Int) c := by
  unfold addC conC
  by_cases h : c.at_ ≤ (p : Int) ∧ (p : Int) < c.at_ + i
  · rw [if_pos h, if_pos ⟨ht, h.1, by omega, by omega⟩]
  · rw [if_neg h, if_neg (by rintro ⟨_, h1, h2, h3⟩; exact h ⟨h1, by omega⟩)]
theorem list_fill (f : Nat → Int) (n p : Nat) (hp : p < n) : ((List.range p).map (fun i => Value.int .i64 (f i)) ++ List.replicate (n - p) (Value.int .i64 0)).set p (.int .i64 (f p)) = (List.range (p + 1)).map (fun i => Value.int .i64 (f i)) ++ List.replicate (n - (p + 1)) (Value.int .i64 0) := by
  rw [List.set_append_right _ _ (by simp), List.length_map, List.length_range, Nat.sub_self, List.range_succ, List.map_append]
  obtain ⟨m, hm⟩ : ∃ m, n - p = m + 1 := ⟨n - p - 1, by omega⟩
  rw [hm, List.replicate_succ, List.set_cons_zero, show n - (p + 1) = m by omega, List.append_assoc]
  rfl
theorem sumN_bd (f : Nat → Int) (h : ∀ i, 0 ≤ f i ∧ f i ≤ 1) : ∀ n : Nat, 0 ≤ ((List.range n).map f).sum ∧ ((List.range n).map f).sum ≤ n
  | 0 => by simp
  | n + 1 => by
    have ih := sumN_bd f h n
    have := h n
    rw [List.range_succ, List.map_append, List.sum_append]
    simp
    omega
theorem renN_bd (l : List Md) (cs : List Cp) (he : endC cs ≤ 100000) : ∀ n : Nat, 0 ≤ renN l cs n ∧ renN l cs n ≤ 100000 * n
  | 0 => by simp [renN]
  | n + 1 => by
    have ih := renN_bd l cs he n
    have h1 := sumN_bd (fun p => clipN (nearQ (mixC l (n : Nat) p cs))) (fun i => clipN_bd _) (endC cs).toNat
    unfold renN at ih ⊢
    rw [List.range_succ, List.map_append, List.sum_append]
    simp only [List.map_cons, List.map_nil, List.sum_cons, List.sum_nil]
    unfold renN1 at ih ⊢
    omega
end Go.Proofs.YtkmcohnhanphdaaGreatDoor
