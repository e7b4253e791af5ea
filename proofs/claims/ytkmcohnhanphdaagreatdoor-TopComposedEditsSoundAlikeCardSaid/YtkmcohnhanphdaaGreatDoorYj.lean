/- num: Parse, From, Lowest, Ratio, Frac. -/
import Derived.Test.YtkmcohnhanphdaaGreatDoorYi
set_option linter.unusedSimpArgs false
set_option linter.unusedVariables false
namespace Go.Proofs.YtkmcohnhanphdaaGreatDoor
open Go.RowKit Go.Dw
theorem res_ratio {fn : Func} {p u : Tmp} (h : fn.results = #[.cell p 66, .tmp u]) {tmps : Array Value} {w : World} {g : Nat} {v0 v1 : Value} (hp : tmps.getD p undef = .pointer (some ⟨g, 0, none⟩))
    (h0 : w.cell? ⟨g, 0, none⟩ = some v0) (h1 : w.cell? ⟨g, 1, none⟩ = some v1) : (results fn tmps).run Tryz.prog w = .ok (.tuple #[.agg #[v0, v1], tmps.getD u undef]) w := by
  have hp' : tmps[p]?.getD undef = .pointer (some ⟨g, 0, none⟩) := by simpa using hp
  simp [results, h, hp', asAddr, loadVar, go_sem, h0, h1]
theorem end_ratio {fn : Func} {R : Ending → World → Prop} {a : Act} {w : World} {p u : Tmp} {g : Nat} {v0 v1 o0 o1 : Value} (h : fn.results = #[.cell p 66, .tmp u]) (hp : a.tmps.getD p undef = .pointer (some ⟨g, 0, none⟩)) (hd : a.defers = []) (c0 : w.cell? ⟨g, 0, none⟩ = some o0) (c1 : w.cell? ⟨g, 1, none⟩ = some o1)
    (hR : R (.returned (.tuple #[.agg #[v0, v1], a.tmps.getD u undef])) ((w.setCell ⟨g, 0, none⟩ v0).setCell ⟨g, 1, none⟩ v1)) : bodyPost Tryz.prog fn R .ret a ((w.setCell ⟨g, 0, none⟩ v0).setCell ⟨g, 1, none⟩ v1) :=
  bodyPost_ret (res_ratio h hp (two_set' w g o0 o1 v0 v1 c0 c1).1 (two_set' w g o0 o1 v0 v1 c0 c1).2) hd hR
def bodyT (s : ByteArray) : List UInt8 := Lib.trimPrefix s.data.toList [45]
def negT (s : ByteArray) : Bool := Lib.hasPrefix s.data.toList [45]
def parseZ (s : ByteArray) : Int := if negT s then -(decV (bodyT s) : Int) else decV (bodyT s)
theorem parseZ_abs (s : ByteArray) : (parseZ s).natAbs = decV (bodyT s) := by unfold parseZ; split <;> simp
theorem CUT_eq {s t : ByteArray} {b : Bool} (ht : Hid (t = ⟨(bodyT s).toArray⟩)) (hb : Hid (negT s = b)) (w : World) : Calls Tryz.prog 102 #[.string s, .string ⟨#[45]⟩] w fun e w' => e = .returned (.tuple #[.string t, .bool b]) ∧ w = w' :=
  (Tryz.strings_CutPrefix s ⟨#[45]⟩ w).mono fun e w' ⟨h1, h2⟩ => ⟨by rw [h1, ht.out, ← hb.out]; rfl, h2.symm⟩
set_option maxRecDepth 100000 in
set_option maxHeartbeats 1000000 in
theorem IPARSE_any (s : ByteArray) (hd : Hid (AllDig (bodyT s))) (hs : s.size ≤ 1000000) (w : World) : Calls Tryz.prog 114 #[.string s] w (OutI w (parseZ s) s.size) := by
  obtain ⟨W, gx, hW, hgx, HHW, HBW, HSW⟩ := cell_new w 82 #[.bool false, .slice none 0 0]
  have HGX := Lib.hid hgx
  have hgw := blk_lt HHW.out
  obtain ⟨t, ht⟩ : ∃ t : ByteArray, t = ⟨(bodyT s).toArray⟩ := ⟨_, rfl⟩
  have htd : t.data.toList = bodyT s := by rw [ht]
  have HTD := Lib.hid htd
  have hts : t.size ≤ s.size := by
    rw [← len_data, ← len_data, htd]
    unfold bodyT Lib.trimPrefix
    split
    · rw [List.length_drop]; omega
    · exact Nat.le_refl _
  have HT := Lib.hid ht
  obtain ⟨b, hb⟩ : ∃ b, negT s = b := ⟨_, rfl⟩
  have HBN := Lib.hid hb
  clear ht htd hb
  go_enter Tryz.func114, Tryz.ntmps114
  go_wp2_with fail
  rw [← hW, ← hgx]
  clear hW hgx
  refine (CUT_eq HT HBN _).mono ?_
  rintro e w1 ⟨rfl, rfl⟩
  go_wp2_with fail
  refine (NATTEXT_any t (by rw [HTD.out]; exact hd) (by omega) _).mono ?_
  rintro e w1 ⟨A1, n1, c1, rfl, h1, k1, hb1⟩
  rw [HTD.out] at h1
  have H1 := Lib.hid h1
  have HPOS := Lib.hid (h1.pos_iff (by omega))
  have HB1 := Lib.hid hb1
  have hhx := (hb1.block gx hgw).trans HHW.out
  obtain ⟨hr0, hr1, hf0, hf1⟩ := two_cells hhx
  have HHX := Lib.hid hhx
  have HABS := Lib.hid (parseZ_abs s)
  obtain ⟨x, hx⟩ : ∃ x, decV (bodyT s) = x := ⟨_, rfl⟩
  have HX := Lib.hid hx
  rw [hx] at H1 HPOS HABS
  clear h1 hb1 hhx hx
  cases b with
  | false =>
    have HSG : Hid (false = decide (parseZ s < 0)) := by
      show _ = _
      unfold parseZ
      rw [HBN.out, HX.out]
      exact (decide_eq_false (by simp)).symm
    go_wp2_with fail
    exact end_intn rfl rfl rfl hr0 hr1 (outI_set (z := parseZ s) (neg := false) HSG.out (by have := HGX.out; omega) ⟨_, _, HHX.out⟩ (by rw [HABS.out]; exact H1.out) (HBW.out.trans (HB1.out.mono (by have := HSW.out; omega))) (by omega))
  | true =>
    have hz : parseZ s = -(x : Int) := by unfold parseZ; rw [HBN.out, HX.out]; rfl
    have HZ := Lib.hid hz
    clear hz
    by_cases hn : 0 < n1
    · have hd4 : decide ((0 : Int) < (n1 : Int)) = true := by simp; omega
      have HSG : Hid (true = decide (parseZ s < 0)) := by have := HPOS.out.1 hn; show _ = _; rw [HZ.out]; exact (decide_eq_true (by omega)).symm
      go_wp2_with fail
      exact end_intn rfl rfl rfl hr0 hr1 (outI_set (z := parseZ s) (neg := true) HSG.out (by have := HGX.out; omega) ⟨_, _, HHX.out⟩ (by rw [HABS.out]; exact H1.out) (HBW.out.trans (HB1.out.mono (by have := HSW.out; omega))) (by omega))
    · have hd4 : decide ((0 : Int) < (n1 : Int)) = false := by simp; omega
      have HSG : Hid (false = decide (parseZ s < 0)) := by
        have : ¬ 0 < x := fun h => hn (HPOS.out.2 h)
        show _ = _; rw [HZ.out]; exact (decide_eq_false (by omega)).symm
      go_wp2_with fail
      exact end_intn rfl rfl rfl hr0 hr1 (outI_set (z := parseZ s) (neg := false) HSG.out (by have := HGX.out; omega) ⟨_, _, HHX.out⟩ (by rw [HABS.out]; exact H1.out) (HBW.out.trans (HB1.out.mono (by have := HSW.out; omega))) (by omega))
def RawAt (w : World) (B : Nat) (neg : Bool) (A : Option Addr) (n c : Nat) (A' : Option Addr) (n' c' : Nat) (z : Int) (x : Nat) : Prop := IntAt w B neg A n c z ∧ NumAt .u32 164 4294967296 w B A' n' c' x
def OutRaw (w : World) (z : Int) (x k l : Nat) (e : Ending) (w' : World) : Prop := ∃ neg A n c A' n' c', e = .returned (.agg #[.bool neg, .slice A n c, .slice A' n' c']) ∧ RawAt w' w'.heap.size neg A n c A' n' c' z x ∧ n ≤ k ∧ n' ≤ l ∧ Below w.heap.size w w'
theorem RawAt.rat {w : World} {B : Nat} {neg : Bool} {A A' : Option Addr} {n c n' c' x : Nat} {z : Int} (h : RawAt w B neg A n c A' n' c' z x) (h0 : 0 < x) (hg : Nat.gcd z.natAbs x = 1) : RatAt w B neg A n c A' n' c' (mkRat z x) := by
  obtain ⟨h1, h2⟩ := lowest_self h0 hg
  exact ⟨by rw [h1]; exact h.1, by rw [h2]; exact h.2⟩
theorem outRaw_set {w w1 : World} {gx : Nat} {neg : Bool} {A A' : Option Addr} {n c n' c' k l x : Nat} {z : Int} (hn : neg = decide (z < 0)) (hg : w.heap.size ≤ gx) (ht : TyAt 88 w1 gx) (h : NumAt .u32 164 4294967296 w1 w1.heap.size A n c z.natAbs) (h' : NumAt .u32 164 4294967296 w1 w1.heap.size A' n' c' x) (hb : Below w.heap.size w w1) (hk : n ≤ k) (hl : n' ≤ l) :
    OutRaw w z x k l (.returned (.agg #[.bool neg, .slice A n c, .slice A' n' c'])) (((w1.setCell ⟨gx, 0, none⟩ (.bool neg)).setCell ⟨gx, 1, none⟩ (.slice A n c)).setCell ⟨gx, 2, none⟩ (.slice A' n' c')) := by
  refine ⟨_, _, _, _, _, _, _, rfl, ⟨⟨hn, ?_⟩, ?_⟩, hk, hl, (set2_below' hb hg).setCell (p := ⟨gx, 2, none⟩) hg _⟩
  · refine NumAt.mono ?_ (show w1.heap.size ≤ _ by simp)
    exact ((h.set_far (p := ⟨gx, 0, none⟩) ht (by decide) _).set_far (p := ⟨gx, 1, none⟩) (ht.set _ _) (by decide) _).set_far (p := ⟨gx, 2, none⟩) ((ht.set _ _).set _ _) (by decide) _
  · refine NumAt.mono ?_ (show w1.heap.size ≤ _ by simp)
    exact ((h'.set_far (p := ⟨gx, 0, none⟩) ht (by decide) _).set_far (p := ⟨gx, 1, none⟩) (ht.set _ _) (by decide) _).set_far (p := ⟨gx, 2, none⟩) ((ht.set _ _).set _ _) (by decide) _
theorem two_keep {W w1 : World} {a b : Addr} {v0 v1 : Value} (h : W.cell? a = some v0 ∧ W.cell? b = some v1)
    (hb : Below W.heap.size W w1) (ha : a.block < W.heap.size) (hbb : b.block < W.heap.size) : w1.cell? a = some v0 ∧ w1.cell? b = some v1 :=
  ⟨(hb.cell ha).trans h.1, (hb.cell hbb).trans h.2⟩
set_option maxRecDepth 100000 in
set_option maxHeartbeats 2000000 in
theorem QFROM_any (s t : ByteArray) (hd : Hid (AllDig (bodyT s))) (hs : s.size ≤ 1000000) (hd' : Hid (AllDig t.data.toList)) (ht : t.size ≤ 1000000) (w : World) :
    Calls Tryz.prog 67 #[.agg #[.string s, .string t]] w (OutRaw w (parseZ s) (decV t.data.toList) s.size t.size) := by
  obtain ⟨W, gx, hW, hgx, HHW, HBW, HSW⟩ := boxes2 w (.cells #[.string s, .string t] 66) (.cells #[.bool false, .slice none 0 0, .slice none 0 0] 88)
  have HGX := Lib.hid hgx
  obtain ⟨x0, x1, _, _⟩ := two_cells HHW.out.1
  have hgw := blk_lt HHW.out.2
  have HHR := Lib.hid HHW.out.2
  have HSZ := Lib.hid HBW.out.size
  go_enter Tryz.func67, Tryz.ntmps67
  go_upto_region 1 with (fail)
  rw [← hW, ← hgx]
  clear hW hgx HHW
  obtain ⟨W, rfl⟩ : ∃ Wx : World, Wx = W := ⟨_, rfl⟩
  refine wp_region_text 7 (fun x => x.cell? ⟨gx, 0, none⟩ = some (.string s) ∧ x.cell? ⟨gx, 1, none⟩ = some (.string t)) (by kernel_rfl) (by kernel_rfl) ?_
  have hS : W.drew.cell? ⟨gx, 0, none⟩ = some (.string s) ∧ W.drew.cell? ⟨gx, 1, none⟩ = some (.string t) := ⟨x0, x1⟩
  have hS0 := And.intro x0 x1
  refine HT.take (i := 0) (oi := _) (v := ?_) rfl (by kernel_rfl) (by kernel_rfl) (by decide) (fun _ _ _ h => h) (Or.inl ⟨by rfl, ?_⟩) hS ?_
  rotate_left
  · intro wz
    go_simp
    try with_reducible rfl
  simp only [zA, zB, zC, Act.put, zD, zE, zF]
  refine HT.load (i := 1) (oi := _) (v := ?_) rfl (by kernel_rfl) (by kernel_rfl) (by decide) (fun _ _ _ h => h) (by kernel_rfl) (Or.inl ⟨by rfl, ?_⟩) hS ?_
  rotate_left
  · intro wz hwz
    try dsimp only at hwz
    go_simp
    try with_reducible rfl
  simp only [zA, zB, zC, Act.put, zD, zE, zF]
  refine HT.take (i := 3) (oi := _) (v := ?_) rfl (by kernel_rfl) (by kernel_rfl) (by decide) (fun _ _ _ h => h) (Or.inl ⟨by rfl, ?_⟩) hS ?_
  rotate_left
  · intro wz
    go_simp
    try with_reducible rfl
  simp only [zA, zB, zC, Act.put, zD, zE, zF]
  refine HT.load (i := 4) (oi := _) (v := ?_) rfl (by kernel_rfl) (by kernel_rfl) (by decide) (fun _ _ _ h => h) (by kernel_rfl) (Or.inl ⟨by rfl, ?_⟩) hS ?_
  rotate_left
  · intro wz hwz
    try dsimp only at hwz
    go_simp
    try with_reducible rfl
  simp only [zA, zB, zC, Act.put, zD, zE, zF]
  refine HT.one (i := 2) (o := _) rfl (by kernel_rfl) (by decide) (by rfl) ?_
  intro K hK
  go_simp
  refine (IPARSE_any s hd hs _).mono ?_
  rintro e w1 ⟨ng1, A1, n1, c1, rfl, h1, k1, hb1⟩
  replace hb1 : Below W.heap.size W w1 := below_undrew hb1
  have H1 := Lib.hid h1
  have HB1 := Lib.hid hb1
  clear h1 hb1
  refine hK.out _ _ (two_keep hS0 HB1.out (by dsimp only; omega) (by dsimp only; omega)) ?_
  clear hK K hS
  have hS := two_keep hS0 HB1.out (by dsimp only; omega) (by dsimp only; omega)
  try simp only [zA, zB, zC, Act.put, zD, zE, zF]
  refine HT.one (i := 5) (o := _) rfl (by kernel_rfl) (by decide) (by rfl) ?_
  intro K hK
  go_simp
  refine (NATTEXT_any t hd' ht _).mono ?_
  rintro e w2 ⟨A2, n2, c2, rfl, h2, k2, hb2⟩
  have H2 := Lib.hid h2
  have H12 := Lib.hid (H1.out.to hb2 (Nat.le_refl _) hb2.size)
  have HB2 := Lib.hid (HB1.out.trans (hb2.mono HB1.out.size))
  clear h2 hb2
  refine hK.out _ _ (two_keep hS0 HB2.out (by dsimp only; omega) (by dsimp only; omega)) ?_
  clear hK K hS
  have hS := two_keep hS0 HB2.out (by dsimp only; omega) (by dsimp only; omega)
  try simp only [zA, zB, zC, Act.put, zD, zE, zF]
  refine HT.take (i := 6) (oi := _) (v := ?_) rfl (by kernel_rfl) (by kernel_rfl) (by decide) (fun _ _ _ h => h) (Or.inl ⟨by rfl, ?_⟩) hS ?_
  rotate_left
  · intro wz
    go_simp
    try with_reducible rfl
  simp only [zA, zB, zC, Act.put, zD, zE, zF]
  have hhx := (HB2.out.block (gx + 1) hgw).trans HHR.out
  obtain ⟨hr0, hr1, hr2, hf0, hf1, hf2⟩ := three_cells hhx
  have HHX := Lib.hid hhx
  clear hhx
  refine HT.done (by kernel_rfl) ?_
  clear hS
  simp only [List.drop_succ_cons, List.drop_zero]
  go_wp2_with fail
  exact end_rat rfl rfl rfl hr0 hr1 hr2 (outRaw_set (z := parseZ s) H12.out.1 (by have := HGX.out; omega) ⟨_, _, HHX.out⟩ H12.out.2 H2.out (HBW.out.trans (HB2.out.mono HSZ.out)) k1 k2)
end Go.Proofs.YtkmcohnhanphdaaGreatDoor
/- num.Rat: Lowest, Ratio; Frac. -/
namespace Go.Proofs.YtkmcohnhanphdaaGreatDoor
open Go.RowKit Go.Dw
theorem run_field1 (ng : Bool) (A1 A2 : Option Addr) (n1 c1 n2 c2 : Nat) (W : World) : (Instr.field 88 (.agg #[.bool ng, .slice A1 n1 c1, .slice A2 n2 c2]) 1).run Tryz.prog W = .ok (.slice A2 n2 c2) W := by
  kernel_rfl
set_option maxRecDepth 100000 in
set_option maxHeartbeats 2000000 in
theorem QLOWEST_any (neg : Bool) (A D : Option Addr) (n c m d : Nat) (z : Int) (x : Nat) (hx : 0 < x) (hn : n ≤ 100000000) (hm : m ≤ 100000000) (w : World) (B : Nat) (hB : B ≤ w.heap.size) (hh : Hid (RawAt w B neg A n c D m d z x)) :
    Calls Tryz.prog 104 #[.agg #[.bool neg, .slice A n c, .slice D m d]] w fun e w' => e = .returned (.bool (decide (Nat.gcd z.natAbs x = 1))) ∧ Below w.heap.size w w' := by
  obtain ⟨W, gx, hW, hgx, HHW, HBW, HSW⟩ := cell_new w 88 #[.bool neg, .slice A n c, .slice D m d]
  have HGX := Lib.hid hgx
  obtain ⟨x0, x1, x2, _, _, _⟩ := three_cells HHW.out
  have hgw := blk_lt HHW.out
  have HSZ := Lib.hid HBW.out.size
  have HRW : Hid (RawAt W W.heap.size neg A n c D m d z x) := ⟨hh.out.1.to HBW.out hB (Nat.le_trans hB HBW.out.size), hh.out.2.to HBW.out hB (Nat.le_trans hB HBW.out.size)⟩
  have HF := Lib.hid (mkRat_fields z x hx)
  have HX := Lib.hid hx
  have HEQ : Hid (cmpN (mkRat z x).den x = 0 ↔ Nat.gcd z.natAbs x = 1) := by
    show _ ↔ _
    have hg : 0 < Nat.gcd z.natAbs x := Nat.gcd_pos_of_pos_right _ hx
    constructor
    · intro h
      have h1 : (mkRat z x).den = x := by
        rcases Nat.lt_trichotomy (mkRat z x).den x with h2 | h2 | h2
        · rw [cmpN_lt h2] at h; exact absurd h (by decide)
        · exact h2
        · rw [cmpN_gt h2] at h; exact absurd h (by decide)
      rw [HF.out.2] at h1
      have h2 := Nat.div_mul_cancel (Nat.gcd_dvd_right z.natAbs x)
      rw [h1] at h2
      have h3 : x * Nat.gcd z.natAbs x = x * 1 := by rw [h2, Nat.mul_one]
      exact Nat.eq_of_mul_eq_mul_left hx h3
    · intro h
      exact cmpN_eq (by rw [HF.out.2, h, Nat.div_one])
  obtain ⟨k, hk⟩ : ∃ k, cmpN (mkRat z x).den x = k := ⟨_, rfl⟩
  rw [hk] at HEQ
  have HK := Lib.hid hk
  clear hk
  go_enter Tryz.func104, Tryz.ntmps104
  go_upto_region 1 with (fail)
  rw [← hW, ← hgx]
  clear hW hgx
  obtain ⟨W, rfl⟩ : ∃ Wx : World, Wx = W := ⟨_, rfl⟩
  refine wp_region_text 10 (fun x => x.cell? ⟨gx, 0, none⟩ = some (.bool neg) ∧ x.cell? ⟨gx, 1, none⟩ = some (.slice A n c) ∧ x.cell? ⟨gx, 2, none⟩ = some (.slice D m d)) (by kernel_rfl) (by kernel_rfl) ?_
  have hS : W.drew.cell? ⟨gx, 0, none⟩ = some (.bool neg) ∧ W.drew.cell? ⟨gx, 1, none⟩ = some (.slice A n c) ∧ W.drew.cell? ⟨gx, 2, none⟩ = some (.slice D m d) := ⟨x0, x1, x2⟩
  have hS0 := And.intro x0 (And.intro x1 x2)
  refine HT.take (i := 0) (oi := _) (v := ?_) rfl (by kernel_rfl) (by kernel_rfl) (by decide) (fun _ _ _ h => h) (Or.inl ⟨by rfl, ?_⟩) hS ?_
  rotate_left
  · intro wz
    go_simp
    try with_reducible rfl
  simp only [zA, zB, zC, Act.put, zD, zE, zF]
  refine HT.load (i := 1) (oi := _) (v := ?_) rfl (by kernel_rfl) (by kernel_rfl) (by decide) (fun _ _ _ h => h) (by kernel_rfl) (Or.inl ⟨by rfl, ?_⟩) hS ?_
  rotate_left
  · intro wz hwz
    try dsimp only at hwz
    go_simp
    try with_reducible rfl
  simp only [zA, zB, zC, Act.put, zD, zE, zF]
  refine HT.take (i := 2) (oi := _) (v := ?_) rfl (by kernel_rfl) (by kernel_rfl) (by decide) (fun _ _ _ h => h) (Or.inl ⟨by rfl, ?_⟩) hS ?_
  rotate_left
  · intro wz
    go_simp
    try with_reducible rfl
  simp only [zA, zB, zC, Act.put, zD, zE, zF]
  refine HT.load (i := 3) (oi := _) (v := ?_) rfl (by kernel_rfl) (by kernel_rfl) (by decide) (fun _ _ _ h => h) (by kernel_rfl) (Or.inl ⟨by rfl, ?_⟩) hS ?_
  rotate_left
  · intro wz hwz
    try dsimp only at hwz
    go_simp
    try with_reducible rfl
  simp only [zA, zB, zC, Act.put, zD, zE, zF]
  refine HT.take (i := 6) (oi := _) (v := ?_) rfl (by kernel_rfl) (by kernel_rfl) (by decide) (fun _ _ _ h => h) (Or.inl ⟨by rfl, ?_⟩) hS ?_
  rotate_left
  · intro wz
    go_simp
    try with_reducible rfl
  simp only [zA, zB, zC, Act.put, zD, zE, zF]
  refine HT.load (i := 7) (oi := _) (v := ?_) rfl (by kernel_rfl) (by kernel_rfl) (by decide) (fun _ _ _ h => h) (by kernel_rfl) (Or.inl ⟨by rfl, ?_⟩) hS ?_
  rotate_left
  · intro wz hwz
    try dsimp only at hwz
    go_simp
    try with_reducible rfl
  simp only [zA, zB, zC, Act.put, zD, zE, zF]
  refine HT.one (i := 4) (o := _) rfl (by kernel_rfl) (by decide) (by rfl) ?_
  intro K hK
  go_simp
  refine (QOVER_any neg A D n c m d x z hn hm hx _ W.heap.size (by exact Nat.le_refl _) (by exact Lib.hid HRW.out.1) (by exact Lib.hid HRW.out.2)).mono ?_
  rintro e w1 ⟨ng1, A1, n1, c1, A2, n2, c2, rfl, h1, k1, k2, hb1⟩
  replace hb1 : Below W.heap.size W w1 := below_undrew hb1
  have H1 := Lib.hid h1
  have HB1 := Lib.hid hb1
  clear h1 hb1
  refine hK.out _ _ (three_keep hS0 HB1.out (by dsimp only; omega) (by dsimp only; omega) (by dsimp only; omega)) ?_
  clear hK K hS
  have hS := three_keep hS0 HB1.out (by dsimp only; omega) (by dsimp only; omega) (by dsimp only; omega)
  try simp only [zA, zB, zC, Act.put, zD, zE, zF]
  have hfd := run_field1 ng1 A1 A2 n1 c1 n2 c2
  refine HT.take (i := 5) (oi := _) (v := ?_) rfl (by kernel_rfl) (by kernel_rfl) (by decide) (fun _ _ _ h => h) (Or.inl ⟨by rfl, ?_⟩) hS ?_
  rotate_left
  · intro wz
    go_simp
    try with_reducible rfl
  simp only [zA, zB, zC, Act.put, zD, zE, zF]
  refine HT.one (i := 8) (o := _) rfl (by kernel_rfl) (by decide) (by rfl) ?_
  intro K hK
  go_simp
  refine (NCMP_below A2 D n2 c2 _ m d x _ w1.heap.size (Lib.hid H1.out.2) (by exact Lib.hid (HRW.out.2.to HB1.out (Nat.le_refl _) HB1.out.size))).mono ?_
  rintro e w2 ⟨rfl, hb2⟩
  rw [HK.out]
  have HB2 := Lib.hid (HB1.out.trans (hb2.mono HB1.out.size))
  clear hb2
  refine hK.out _ _ (three_keep hS0 HB2.out (by dsimp only; omega) (by dsimp only; omega) (by dsimp only; omega)) ?_
  clear hK K hS
  have hS := three_keep hS0 HB2.out (by dsimp only; omega) (by dsimp only; omega) (by dsimp only; omega)
  try simp only [zA, zB, zC, Act.put, zD, zE, zF]
  refine HT.take (i := 9) (oi := _) (v := ?_) rfl (by kernel_rfl) (by kernel_rfl) (by decide) (fun _ _ _ h => h) (Or.inl ⟨by rfl, ?_⟩) hS ?_
  rotate_left
  · intro wz
    go_simp
    try with_reducible rfl
  simp only [zA, zB, zC, Act.put, zD, zE, zF]
  refine HT.done (by kernel_rfl) ?_
  clear hS
  simp only [List.drop_succ_cons, List.drop_zero]
  go_wp2_with fail
  go_ret
  refine ⟨ret_bool ?_, HBW.out.trans (HB2.out.mono HSZ.out)⟩
  by_cases h : k = 0
  · rw [decide_eq_true (HEQ.out.1 h), h]; rfl
  · rw [decide_eq_false (fun h9 => h (HEQ.out.2 h9))]; simpa using h
def numT (q : Rat) : List UInt8 := (if q.num < 0 then [45] else []) ++ Lib.decDigits q.num.natAbs
def fewT (q : Rat) (most : Nat) : Bool := decide ((Lib.decDigits q.num.natAbs).length ≤ most) && decide ((Lib.decDigits q.den).length ≤ most)
def ratT (q : Rat) (most : Nat) : Value := if fewT q most then .tuple #[.agg #[.string ⟨(numT q).toArray⟩, .string ⟨(Lib.decDigits q.den).toArray⟩], .bool true] else .tuple #[.agg #[.string ⟨#[]⟩, .string ⟨#[]⟩], .bool false]
end Go.Proofs.YtkmcohnhanphdaaGreatDoor
