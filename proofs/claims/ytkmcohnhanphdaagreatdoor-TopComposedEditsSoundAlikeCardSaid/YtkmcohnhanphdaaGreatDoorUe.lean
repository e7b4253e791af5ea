/- Curves: functions of whole numbers that lie in memory; edit.curveOf. -/
import Derived.Test.YtkmcohnhanphdaaGreatDoorUc
import Derived.Test.YtkmcohnhanphdaaGreatDoorSrt
import Derived.Laws.EntriesVeiled
set_option linter.unusedSimpArgs false
set_option linter.unusedVariables false
namespace Go.Proofs.YtkmcohnhanphdaaGreatDoor
open Go.RowKit Go.Dw
attribute [local go_sem ↓] Go.wp_at_zero Go.wp_at_succ
structure FnAt (D : Nat → Prop) (w : World) (fid : FuncId) (caps : Array Value) (g : Int → Rat) (k : Nat) : Prop where
  lt : ∀ b, D b → b < w.heap.size
  enter : ∀ (args : Array Value) (W : World), (callFunc fid args).run Tryz.prog W = .ok (.enter fid args) W
  calls : ∀ w1, w.heap.size ≤ w1.heap.size → (∀ b, D b → w1.heap[b]? = w.heap[b]?) → ∀ i : Int, -1000000000000000 ≤ i → i ≤ 1000000000000000 → Calls Tryz.prog fid (#[.int .i64 i] ++ caps) w1 (OutQ w1 (g i) k k)
theorem FnAt.agree {D : Nat → Prop} {w w' : World} {fid : FuncId} {caps : Array Value} {g : Int → Rat} {k : Nat} (h : FnAt D w fid caps g k) (hs : w.heap.size ≤ w'.heap.size) (ha : ∀ b, D b → w'.heap[b]? = w.heap[b]?) : FnAt D w' fid caps g k :=
  ⟨fun b hb => Nat.lt_of_lt_of_le (h.lt b hb) hs, h.enter, fun w1 h1 h2 => h.calls w1 (Nat.le_trans hs h1) (fun b hb => (h2 b hb).trans (ha b hb))⟩
theorem FnAt.below {D : Nat → Prop} {w w' : World} {fid : FuncId} {caps : Array Value} {g : Int → Rat} {k : Nat} (h : FnAt D w fid caps g k) (hb : Below w.heap.size w w') : FnAt D w' fid caps g k :=
  h.agree hb.size (fun b hd => hb.block b (h.lt b hd))
theorem FnAt.at_ {D : Nat → Prop} {w w' : World} {fid : FuncId} {caps : Array Value} {g : Int → Rat} {k : Nat} (h : FnAt D w fid caps g k) (hb : Below w.heap.size w w') (i : Int) (h1 : -1000000000000000 ≤ i) (h2 : i ≤ 1000000000000000) : Calls Tryz.prog fid (#[.int .i64 i] ++ caps) w' (OutQ w' (g i) k k) :=
  h.calls w' hb.size (fun b hd => hb.block b (h.lt b hd)) i h1 h2
theorem PtsAt.agree {w w' : World} {B : Nat} {A : Option Addr} {n : Nat} {l : List Pt} (h : PtsAt w B A n l) (ha : ∀ b, b < B → w'.heap[b]? = w.heap[b]?) : PtsAt w' B A n l :=
  ⟨h.1, fun k hk => by
    obtain ⟨b, o, e, hb, h1, h2, h3⟩ := h.2 k hk
    exact ⟨b, o, e, hb, (World.cell?_of_block (a := ⟨b, o + k * 3, none⟩) (ha b hb)).trans h1, (World.cell?_of_block (a := ⟨b, o + k * 3 + 1, none⟩) (ha b hb)).trans h2, (World.cell?_of_block (a := ⟨b, o + k * 3 + 2, none⟩) (ha b hb)).trans h3⟩⟩
theorem load_curve (w : World) (g : Nat) (v0 v1 : Value) (h0 : w.cell? ⟨g, 0, none⟩ = some v0) (h1 : w.cell? ⟨g, 1, none⟩ = some v1) :
    (loadVar 116 ⟨g, 0, none⟩).run Tryz.prog w = .ok (.agg #[v0, v1]) w := by
  simp [loadVar, go_sem, h0, h1]
theorem res_curve {fn : Func} {p : Tmp} (h : fn.results = #[.cell p 116]) {tmps : Array Value} {w : World} {g : Nat} {v0 v1 : Value} (hp : tmps.getD p undef = .pointer (some ⟨g, 0, none⟩))
    (h0 : w.cell? ⟨g, 0, none⟩ = some v0) (h1 : w.cell? ⟨g, 1, none⟩ = some v1) : (results fn tmps).run Tryz.prog w = .ok (.agg #[v0, v1]) w := by
  have hp' : tmps[p]?.getD undef = .pointer (some ⟨g, 0, none⟩) := by simpa using hp
  simp [results, h, hp', asAddr, load_curve w g v0 v1 h0 h1]
theorem OwnI.to_base {w : World} {base base' : Nat} {v : Value} {l : List Int} (h : OwnI w base v l) (hb : base' ≤ base) : OwnI w base' v l := own_base h hb
def clipB (c : Cp) (v : Value) : Obj := .cells #[.string c.media, .int .i64 c.chan, .int .i64 c.from_, .int .i64 c.track, .int .i64 c.at_, .int .i64 c.len, v] 58 (0, 0)
set_option maxRecDepth 100000 in
set_option maxHeartbeats 2000000 in
theorem CURVEOF1_any (c : Cp) (A : Option Addr) (n cap g2 g3 : Nat) (f i : Int) (hf : -100000000000000 ≤ f ∧ f ≤ 100000000000000) (hi : -1000000000000000 ≤ i ∧ i ≤ 1000000000000000) (hlen : c.len ≤ 100000) (hok : Hid (EnvOk c.len c.env)) (w : World) (B : Nat) (hB : B ≤ w.heap.size) (hh : Hid (PtsAt w B A n c.env))
    (h2 : Hid (w.heap[g2]? = some (clipB c (.slice A n cap)))) (h3 : Hid (w.heap[g3]? = some (.cells #[.int .i64 f] 3 (0, 0)))) :
    Calls Tryz.prog 94 #[.int .i64 i, .pointer (some ⟨g2, 0, none⟩), .pointer (some ⟨g3, 0, none⟩)] w (OutQ w (envV c.env (i + f)) 20000 20000) := by
  unfold clipB at h2
  obtain ⟨W, g, hW, hg, HG, HBW, HSW⟩ := cell_new w 88 #[.bool false, .slice none 0 0, .slice none 0 0]
  have HG9 := Lib.hid hg
  have HX2 := Lib.hid ((HBW.out.block g2 (blk_lt h2.out)).trans h2.out)
  have HX3 := Lib.hid ((HBW.out.block g3 (blk_lt h3.out)).trans h3.out)
  obtain ⟨x0, x1, x2, x3, x4, x5, x6⟩ := seven_cells HX2.out
  have y0 : W.cell? ⟨g3, 0, none⟩ = some (.int .i64 f) := by rw [own_cell1 HX3.out 0]; rfl
  have hhW : Hid (PtsAt W B A n c.env) := hh.out.below HBW.out hB
  have hBW : B ≤ W.heap.size := Nat.le_trans hB HBW.out.size
  obtain ⟨hi1, hi2⟩ := hi
  obtain ⟨hf1, hf2⟩ := hf
  go_enter Tryz.func94, Tryz.ntmps94
  go_upto_region 1 with (fail)
  rw [← hW, ← hg]
  clear hW hg
  go_wp2_with fail
  refine (EVALUE_any c A n cap (i + f) (by omega) hlen hok W B hBW hhW).mono ?_
  rintro e w1 ⟨ng, A2, n2, c2, D2, m2, d2, rfl, h1, hk1, hl1, hb1⟩
  have H1 := Lib.hid h1
  have HB1 := Lib.hid (HBW.out.trans (hb1.mono HBW.out.size))
  have HH1 := Lib.hid ((hb1.block g (blk_lt HG.out)).trans HG.out)
  clear x0 x1 x2 x3 x4 x5 x6 y0 h1 hb1
  obtain ⟨hr0, hr1, hr2, hf0, hf1, hf2⟩ := three_cells HH1.out
  go_wp2_with fail
  refine end_rat rfl rfl rfl hr0 hr1 hr2 ?_
  exact outQ_set H1.out.1.1 (by have := HG9.out; omega) ⟨_, _, HH1.out⟩ H1.out.1.2 H1.out.2 HB1.out hk1 hl1
set_option maxRecDepth 100000 in
theorem curve_fn (c : Cp) (A : Option Addr) (n cap g2 g3 : Nat) (f : Int) (hf : -100000000000000 ≤ f ∧ f ≤ 100000000000000) (hlen : c.len ≤ 100000) (hok : Hid (EnvOk c.len c.env)) (w : World) (B : Nat) (hB : B ≤ w.heap.size) (hh : Hid (PtsAt w B A n c.env))
    (h2 : w.heap[g2]? = some (clipB c (.slice A n cap))) (h3 : w.heap[g3]? = some (.cells #[.int .i64 f] 3 (0, 0))) :
    FnAt (fun b => b < B ∨ b = g2 ∨ b = g3) w 94 #[.pointer (some ⟨g2, 0, none⟩), .pointer (some ⟨g3, 0, none⟩)] (fun i => envV c.env (i + f)) 20000 :=
  ⟨fun b hb => by
    rcases hb with h | h | h
    · omega
    · rw [h]; exact blk_lt h2
    · rw [h]; exact blk_lt h3, fun _ _ => rfl, fun w1 h1 ha i hi1 hi2 =>
    CURVEOF1_any c A n cap g2 g3 f i hf ⟨hi1, hi2⟩ hlen hok w1 B (by omega) (Lib.hid (hh.out.agree (fun b hb => ha b (.inl hb)))) (Lib.hid ((ha g2 (.inr (.inl rfl))).trans h2)) (Lib.hid ((ha g3 (.inr (.inr rfl))).trans h3))⟩
set_option maxRecDepth 100000 in
set_option maxHeartbeats 4000000 in
theorem CURVEOF_any (c : Cp) (A : Option Addr) (n cap : Nat) (f : Int) (hf : -100000000000000 ≤ f ∧ f ≤ 100000000000000) (hlen : c.len ≤ 100000) (hok : Hid (EnvOk c.len c.env)) (w : World) (B : Nat) (hB : B ≤ w.heap.size) (hh : Hid (PtsAt w B A n c.env)) :
    Calls Tryz.prog 52 #[cpV c (.slice A n cap), .int .i64 f] w fun e w' => ∃ g2 g3 v, e = .returned (.agg #[.func (.func 94) #[] #[.pointer (some ⟨g2, 0, none⟩), .pointer (some ⟨g3, 0, none⟩)], v]) ∧ w.heap.size ≤ g2 ∧ g2 < g3 ∧ w'.heap[g2]? = some (clipB c (.slice A n cap)) ∧ w'.heap[g3]? = some (.cells #[.int .i64 f] 3 (0, 0)) ∧ OwnI w' (g3 + 1) v (c.env.map (fun p => p.at_ - f)) ∧ Below w.heap.size w w' := by
  have hl := Lib.hid hh.out.1
  have hn50 : n ≤ 50 := by have := hok.out.few; have := hl.out; omega
  have HIN := Lib.hid hok.out.in_
  unfold cpV clipB
  obtain ⟨W, g, hW, hg, HG, HBW, HSW⟩ := boxes3 w (.cells #[.string c.media, .int .i64 c.chan, .int .i64 c.from_, .int .i64 c.track, .int .i64 c.at_, .int .i64 c.len, .slice A n cap] 58) (.cells #[.int .i64 f] 3) (.cells #[.nilFunc, .slice none 0 0] 116)
  have HG9 := Lib.hid hg
  have HXC := Lib.hid HG.out.1
  have HXF := Lib.hid HG.out.2.1
  have HXR := Lib.hid HG.out.2.2
  obtain ⟨f1, hf1⟩ : ∃ f1, g + 1 = f1 := ⟨_, rfl⟩
  obtain ⟨r1, hr1⟩ : ∃ r1, f1 + 1 = r1 := ⟨_, rfl⟩
  rw [hf1] at HXF HXR
  rw [hr1] at HXR
  have HR9 := Lib.hid (show f1 = g + 1 ∧ r1 = f1 + 1 by omega)
  have hBW : B ≤ W.heap.size := Nat.le_trans hB HBW.out.size
  have hhW : Hid (PtsAt W B A n c.env) := hh.out.below HBW.out hB
  obtain ⟨_, _, _, _, _, _, x6⟩ := seven_cells HXC.out
  obtain ⟨hfl, hfh⟩ := hf
  go_enter Tryz.func52, Tryz.ntmps52
  go_upto_region 2 with (fail)
  rw [← hW, ← hg, hf1, hr1]
  clear hW hg hf1 hr1
  go_wp2_with fail
  clear x6
  go_loopw [5, 11] (fun v i wr => ∃ k : Nat, k ≤ n ∧ i = .int .i64 k ∧ Hid (OwnI wr W.heap.size v ((c.env.take k).map (fun p => p.at_ - f))) ∧ Hid (Below W.heap.size W wr)) (fun _ i _ => n - (intOf i).toNat)
  case atStart => exact ⟨0, Nat.zero_le _, rfl, OwnI.nil _ _, Below.refl _ _⟩
  case round =>
    obtain ⟨k, hk, rfl, HO, HB⟩ := hrel
    by_cases hlt : k < n
    · have hk0 : (0 : Int) ≤ (k : Int) := by omega
      have hkn : (k : Int) < (n : Int) := by omega
      obtain ⟨b, o, e, hb, c1, c2, c3⟩ := (hhW.out.below HB.out hBW).2 k hlt
      subst e
      have HT : Hid ((c.env.take (k + 1)).map (fun p => p.at_ - f) = (c.env.take k).map (fun p => p.at_ - f) ++ [(ptOf c.env k).at_ - f]) := by show _ = _; rw [take_pt (by rw [hl.out]; exact hlt), List.map_append]; rfl
      have HL9 : Hid (((c.env.take k).map (fun p => p.at_ - f)).length = k) := by show _ = _; rw [List.length_map, List.length_take, hl.out]; omega
      have hin := HIN.out _ (pt_mem (l := c.env) (k := k) (by rw [hl.out]; exact hlt))
      obtain ⟨q, hq⟩ : ∃ q, ptOf c.env k = q := ⟨_, rfl⟩
      rw [hq] at c1 c2 c3 HT hin
      clear hq
      obtain ⟨A5, c5, rfl, _, _⟩ := HO.out.len
      rw [HL9.out] at HO ⊢
      go_upto_region 5 with (fail)
      obtain ⟨X, gp, hX, hgp, HX, HBX, HSX⟩ := cell_new wr 68 #[.int .i64 q.at_, .string q.num, .string q.den]
      rw [← hX, ← hgp]
      clear hX hgp c1 c2 c3
      obtain ⟨y0, _, _, _, _, _⟩ := three_cells HX.out
      have HBWX := Lib.hid (HB.out.trans (HBX.out.mono HB.out.size))
      have HXFX := Lib.hid ((HBWX.out.block f1 (blk_lt HXF.out)).trans HXF.out)
      have z0 : X.cell? ⟨f1, 0, none⟩ = some (.int .i64 f) := by rw [own_cell1 HXFX.out 0]; rfl
      have HOX := Lib.hid (HO.out.below HBX.out)
      have hszX : W.heap.size ≤ X.heap.size := HBWX.out.size
      go_wp2_with (with_reducible refine wpList_push_one rfl (.tmp 15) (.tmp 20) rfl W.heap.size A5 k c5 _ (q.at_ - f) X.heap.size rfl rfl rfl HOX.out (by omega) hszX ?_; intro g5 cap5 w5 hown5 hb5)
      have HO5 := Lib.hid hown5
      have HB5 := Lib.hid (HBWX.out.trans hb5)
      clear hown5 hb5 y0 z0
      go_roundw
      case rel => exact ⟨k + 1, by omega, by go_num, by rw [HT.out]; exact HO5.out, HB5⟩
      case measure => simp [intOf]; omega
    · obtain rfl : k = n := by omega
      have HXRr := Lib.hid ((HB.out.block r1 (blk_lt HXR.out)).trans HXR.out)
      obtain ⟨r0, r9, f0, f9⟩ := two_cells HXRr.out
      have HTK : Hid (c.env.take k = c.env) := by show _ = _; rw [← hl.out, List.take_length]
      rw [HTK.out] at HO
      obtain ⟨A5, c5, rfl, _, _⟩ := HO.out.len
      have HL9 : Hid ((c.env.map (fun p => p.at_ - f)).length = k) := by show _ = _; rw [List.length_map, hl.out]
      rw [HL9.out] at HO ⊢
      go_wp2_with fail
      refine bodyPost_ret (res_curve rfl rfl (two_set' _ _ _ _ _ _ r0 r9).1 (two_set' _ _ _ _ _ _ r0 r9).2) rfl ?_
      have hgs := HR9.out
      have hsz := HSW.out
      have hg9 := HG9.out
      refine ⟨g, f1, _, rfl, by omega, by omega, ?_, ?_, ?_, ?_⟩
      · rw [Below.heap_setCell _ _ _ _ (by simp; omega), Below.heap_setCell _ _ _ _ (by simp; omega)]
        exact (HB.out.block g (blk_lt HXC.out)).trans HXC.out
      · rw [Below.heap_setCell _ _ _ _ (by simp; omega), Below.heap_setCell _ _ _ _ (by simp; omega)]
        exact (HB.out.block f1 (blk_lt HXF.out)).trans HXF.out
      · refine OwnI.to_base ?_ (show f1 + 1 ≤ W.heap.size by omega)
        exact ownsRow_setCell_below (ownsRow_setCell_below HO.out (by dsimp only; omega) _) (by dsimp only; omega) _
      · exact set2_below' (HBW.out.trans (HB.out.mono (by omega))) (by omega)
end Go.Proofs.YtkmcohnhanphdaaGreatDoor
/- Curves: products, bends, points (printed by tools/mkcv.py). -/
namespace Go.Proofs.YtkmcohnhanphdaaGreatDoor
open Go.RowKit Go.Dw
attribute [local go_sem ↓] Go.wp_at_zero Go.wp_at_succ
theorem cmpQ_zero (q r : Rat) : cmpQ q r = 0 ↔ q = r := by
  have h1 : cmpQ q r = 0 ↔ q.num * r.den = r.num * q.den := by
    unfold cmpQ cmpZ
    split
    · omega
    · split <;> omega
  rw [h1]
  constructor
  · intro h
    have h2 := (Rat.mkRat_eq_iff (z₁ := q.den_nz) (z₂ := r.den_nz)).2 h
    rwa [Rat.mkRat_self, Rat.mkRat_self] at h2
  · rintro rfl; rfl
set_option maxRecDepth 100000 in
set_option maxHeartbeats 4000000 in
theorem TIMES1_any (g1 g2 : Nat) (f1 f2 : FuncId) (cs1 cs2 : Array Value) (DA DB : Nat → Prop) (q1 q2 : Int → Rat) (v1 : Value) (i : Int) (hi : -1000000000000000 ≤ i ∧ i ≤ 1000000000000000) (w : World) (h1 : Hid (w.heap[g1]? = some (.cells #[.func (.func f1) #[] cs1, v1] 116 (0, 0)))) (h2 : Hid (w.heap[g2]? = some (.cells #[.func (.func f2) #[] cs2] 114 (0, 0))))
    (hF1 : Hid (FnAt DA w f1 cs1 q1 20000)) (hF2 : Hid (FnAt DB w f2 cs2 q2 20000)) :
    Calls Tryz.prog 95 #[.int .i64 i, .pointer (some ⟨g1, 0, none⟩), .pointer (some ⟨g2, 0, none⟩)] w (OutQ w (q1 i * q2 i) 40000 40000) := by
  obtain ⟨W, g, hW, hg, HG, HBW, HSW⟩ := cell_new w 88 #[.bool false, .slice none 0 0, .slice none 0 0]
  have HG9 := Lib.hid hg
  have HX1 := Lib.hid ((HBW.out.block g1 (blk_lt h1.out)).trans h1.out)
  have HX2 := Lib.hid ((HBW.out.block g2 (blk_lt h2.out)).trans h2.out)
  obtain ⟨x0, _, _, _⟩ := two_cells HX1.out
  have y0 : W.cell? ⟨g2, 0, none⟩ = some (.func (.func f2) #[] cs2) := by rw [own_cell1 HX2.out 0]; rfl
  have HF1 := Lib.hid (hF1.out.below HBW.out)
  have HF2 := Lib.hid (hF2.out.below HBW.out)
  have he1 := hF1.out.enter
  have he2 := hF2.out.enter
  obtain ⟨hi1, hi2⟩ := hi
  go_enter Tryz.func95, Tryz.ntmps95
  go_upto_region 1 with (fail)
  rw [← hW, ← hg]
  clear hW hg
  refine wp_region_head 8 (fun x9 => x9.cell? ⟨g1, 0, none⟩ = some (.func (.func f1) #[] cs1) ∧ x9.cell? ⟨g2, 0, none⟩ = some (.func (.func f2) #[] cs2)) (by kernel_rfl) (by kernel_rfl) ?_
  obtain ⟨wc, hwc⟩ : ∃ x : World, x = W.drew := ⟨_, rfl⟩
  have hbn : Below W.heap.size W W.drew := (Below.refl _ _).drew
  clear hbn
  have HBc : Hid (Below W.heap.size W wc) := by show Below _ _ _; rw [hwc]; exact (Below.refl _ _).drew
  have hS : wc.cell? ⟨g1, 0, none⟩ = some (.func (.func f1) #[] cs1) ∧ wc.cell? ⟨g2, 0, none⟩ = some (.func (.func f2) #[] cs2) := by rw [hwc]; exact ⟨x0, y0⟩
  have hg_0 : g1 < wc.heap.size := by rw [hwc]; exact blk_lt HX1.out
  have hg_1 : g2 < wc.heap.size := by rw [hwc]; exact blk_lt HX2.out
  rw [← hwc]
  clear hwc
  refine HL.take (i := 0) (oi := _) (v := ?_) rfl (by kernel_rfl) (by kernel_rfl) (by decide) (fun _ _ _ h => h) (Or.inl ⟨by rfl, ?_⟩) hS ?_
  rotate_left
  · intro wz hwz
    try dsimp only at hwz
    go_simp
    try with_reducible rfl
  simp only [zA, zB, zC, Act.put, zD, zE, zF]
  refine HL.take (i := 1) (oi := _) (v := ?_) rfl (by kernel_rfl) (by kernel_rfl) (by decide) (fun _ _ _ h => h) (Or.inl ⟨by rfl, ?_⟩) hS ?_
  rotate_left
  · intro wz hwz
    try dsimp only at hwz
    go_simp
    try with_reducible rfl
  simp only [zA, zB, zC, Act.put, zD, zE, zF]
  refine HL.take (i := 2) (oi := _) (v := ?_) rfl (by kernel_rfl) (by kernel_rfl) (by decide) (fun _ _ _ h => h) (Or.inl ⟨by rfl, ?_⟩) hS ?_
  rotate_left
  · intro wz hwz
    try dsimp only at hwz
    go_simp
    try with_reducible rfl
  simp only [zA, zB, zC, Act.put, zD, zE, zF]
  refine HL.take (i := 4) (oi := _) (v := ?_) rfl (by kernel_rfl) (by kernel_rfl) (by decide) (fun _ _ _ h => h) (Or.inl ⟨by rfl, ?_⟩) hS ?_
  rotate_left
  · intro wz hwz
    try dsimp only at hwz
    go_simp
    try with_reducible rfl
  simp only [zA, zB, zC, Act.put, zD, zE, zF]
  refine HL.take (i := 5) (oi := _) (v := ?_) rfl (by kernel_rfl) (by kernel_rfl) (by decide) (fun _ _ _ h => h) (Or.inl ⟨by rfl, ?_⟩) hS ?_
  rotate_left
  · intro wz hwz
    try dsimp only at hwz
    go_simp
    try with_reducible rfl
  simp only [zA, zB, zC, Act.put, zD, zE, zF]
  refine HL.one (i := 3) (o := _) rfl (by kernel_rfl) (by decide) (by rfl) ?_
  intro K hK
  go_simp
  refine (HF1.out.at_ HBc.out i hi1 hi2).mono ?_
  rintro e wn ⟨ng1, A1, n1, c1, D1, d1, e1, rfl, hH1, k1, m1, hbn⟩
  have H1 := Lib.hid hH1
  clear hH1
  have HBn := Lib.hid (HBc.out.trans (hbn.mono HBc.out.size))
  have hSn : wn.cell? ⟨g1, 0, none⟩ = some (.func (.func f1) #[] cs1) ∧ wn.cell? ⟨g2, 0, none⟩ = some (.func (.func f2) #[] cs2) := ⟨(hbn.cell (p := ⟨g1, 0, none⟩) hg_0).trans hS.1, (hbn.cell (p := ⟨g2, 0, none⟩) hg_1).trans hS.2⟩
  have hgn_0 := Nat.lt_of_lt_of_le hg_0 hbn.size
  have hgn_1 := Nat.lt_of_lt_of_le hg_1 hbn.size
  refine hK.out _ _ hSn ?_
  clear hK K hS HBc hg_0 hg_1
  try simp only [zA, zB, zC, Act.put, zD, zE, zF]
  have hS := hSn
  have HBc := HBn
  have hg_0 := hgn_0
  have hg_1 := hgn_1
  clear hSn HBn hbn hgn_0 hgn_1
  obtain ⟨wc, rfl⟩ : ∃ x : World, x = wn := ⟨_, rfl⟩
  refine HL.one (i := 6) (o := _) rfl (by kernel_rfl) (by decide) (by rfl) ?_
  intro K hK
  go_simp
  refine (HF2.out.at_ HBc.out i hi1 hi2).mono ?_
  rintro e wn ⟨ng2, A2, n2, c2, D2, d2, e2, rfl, hH2, k2, m2, hbn⟩
  have H2 := Lib.hid hH2
  clear hH2
  replace H1 := Lib.hid (H1.out.to hbn (Nat.le_refl _) hbn.size)
  have HBn := Lib.hid (HBc.out.trans (hbn.mono HBc.out.size))
  have hSn : wn.cell? ⟨g1, 0, none⟩ = some (.func (.func f1) #[] cs1) ∧ wn.cell? ⟨g2, 0, none⟩ = some (.func (.func f2) #[] cs2) := ⟨(hbn.cell (p := ⟨g1, 0, none⟩) hg_0).trans hS.1, (hbn.cell (p := ⟨g2, 0, none⟩) hg_1).trans hS.2⟩
  have hgn_0 := Nat.lt_of_lt_of_le hg_0 hbn.size
  have hgn_1 := Nat.lt_of_lt_of_le hg_1 hbn.size
  refine hK.out _ _ hSn ?_
  clear hK K hS HBc hg_0 hg_1
  try simp only [zA, zB, zC, Act.put, zD, zE, zF]
  have hS := hSn
  have HBc := HBn
  have hg_0 := hgn_0
  have hg_1 := hgn_1
  clear hSn HBn hbn hgn_0 hgn_1
  obtain ⟨wc, rfl⟩ : ∃ x : World, x = wn := ⟨_, rfl⟩
  refine HL.one (i := 7) (o := _) rfl (by kernel_rfl) (by decide) (by rfl) ?_
  intro K hK
  go_simp
  refine (QMUL_any ng1 ng2 A1 A2 D1 D2 n1 c1 d1 e1 n2 c2 d2 e2 _ _ (by omega) (by omega) (by omega) (by omega) _ wc.heap.size (Nat.le_refl _) H1 H2).mono ?_
  rintro e wn ⟨ng3, A3, n3, c3, D3, d3, e3, rfl, hH3, k3, m3, hbn⟩
  have H3 := Lib.hid hH3
  clear hH3
  clear H1 H2
  have HBn := Lib.hid (HBc.out.trans (hbn.mono HBc.out.size))
  have hSn : wn.cell? ⟨g1, 0, none⟩ = some (.func (.func f1) #[] cs1) ∧ wn.cell? ⟨g2, 0, none⟩ = some (.func (.func f2) #[] cs2) := ⟨(hbn.cell (p := ⟨g1, 0, none⟩) hg_0).trans hS.1, (hbn.cell (p := ⟨g2, 0, none⟩) hg_1).trans hS.2⟩
  have hgn_0 := Nat.lt_of_lt_of_le hg_0 hbn.size
  have hgn_1 := Nat.lt_of_lt_of_le hg_1 hbn.size
  refine hK.out _ _ hSn ?_
  clear hK K hS HBc hg_0 hg_1
  try simp only [zA, zB, zC, Act.put, zD, zE, zF]
  have hS := hSn
  have HBc := HBn
  have hg_0 := hgn_0
  have hg_1 := hgn_1
  clear hSn HBn hbn hgn_0 hgn_1
  obtain ⟨wc, rfl⟩ : ∃ x : World, x = wn := ⟨_, rfl⟩
  have hhx := (HBc.out.block g (blk_lt HG.out)).trans HG.out
  have HBd := Lib.hid (HBW.out.trans (HBc.out.mono HBW.out.size))
  obtain ⟨hr0, hr1, hr2, hf0, hf1, hf2⟩ := three_cells hhx
  have HHX := Lib.hid hhx
  clear hhx
  refine HL.done (by kernel_rfl) ?_
  clear hS
  simp only [List.drop_succ_cons, List.drop_zero]
  go_wp2_with fail
  refine end_rat rfl rfl rfl hr0 hr1 hr2 ?_
  exact outQ_set H3.out.1.1 (by have := HG9.out; omega) ⟨_, _, HHX.out⟩ H3.out.1.2 H3.out.2 HBd.out (by omega) (by omega)
  -- H3
set_option maxRecDepth 100000 in
set_option maxHeartbeats 4000000 in
theorem BENT_any (f1 : FuncId) (cs1 : Array Value) (DA : Nat → Prop) (q1 : Int → Rat) (v1 : Value) (i : Int) (hi : -100000000000000 ≤ i ∧ i ≤ 100000000000000) (w : World) (hF1 : Hid (FnAt DA w f1 cs1 q1 40000)) :
    Calls Tryz.prog 101 #[.agg #[.func (.func f1) #[] cs1, v1], .int .i64 i] w fun e w' => e = .returned (.bool (decide (q1 i - q1 (i - 1) ≠ q1 (i + 1) - q1 i))) ∧ Below w.heap.size w w' := by
  obtain ⟨W, g2, hW, hg, HX0, HBW, HSW⟩ := cell_new w 116 #[.func (.func f1) #[] cs1, v1]
  obtain ⟨x0, _, _, _⟩ := two_cells HX0.out
  have HF0 := Lib.hid (hF1.out.below HBW.out)
  have he1 := hF1.out.enter
  obtain ⟨hi1, hi2⟩ := hi
  go_enter Tryz.func101, Tryz.ntmps101
  go_upto_region 1 with (fail)
  rw [← hW, ← hg]
  clear hW hg
  go_wp2_with fail
  refine (HF0.out.at_ (Below.refl _ _) i (by omega) (by omega)).mono ?_
  rintro e w1 ⟨ngX, AX, nX, cX, DX, dX, eX, rfl, h1, hkX, hlX, hb1⟩
  have H1 := Lib.hid h1
  have HX01 := Lib.hid ((hb1.block g2 (blk_lt HX0.out)).trans HX0.out)
  have HB1 := Lib.hid (HBW.out.trans (hb1.mono HBW.out.size))
  have HF01 := Lib.hid (HF0.out.below hb1)
  clear h1 hb1 x0
  go_upto_region 2 with (fail)
  obtain ⟨wb, g5, hW, hg, HBX, HBn, HSn⟩ := cell_new w1 88 #[.bool ngX, .slice AX nX cX, .slice DX dX eX]
  rw [← hW, ← hg]
  clear hW hg
  have HX1 := Lib.hid ((HBn.out.block g2 (blk_lt HX01.out)).trans HX01.out)
  have HF1 := Lib.hid (HF01.out.below HBn.out)
  have HX := Lib.hid (H1.out.later HBn.out)
  have HBB := Lib.hid (HB1.out.trans (HBn.out.mono HB1.out.size))
  obtain ⟨x0, _, _, _⟩ := two_cells HX1.out
  obtain ⟨qX0, qX1, qX2, _, _, _⟩ := three_cells HBX.out
  clear H1 HX0 HX01 HF0 HF01 HBn HB1
  refine wp_region_head 16 (fun x9 => x9.cell? ⟨g2, 0, none⟩ = some (.func (.func f1) #[] cs1) ∧ x9.cell? ⟨g5, 0, none⟩ = some (.bool ngX) ∧ x9.cell? ⟨g5, 1, none⟩ = some (.slice AX nX cX) ∧ x9.cell? ⟨g5, 2, none⟩ = some (.slice DX dX eX)) (by kernel_rfl) (by kernel_rfl) ?_
  obtain ⟨wc, hwc⟩ : ∃ x : World, x = wb.drew := ⟨_, rfl⟩
  have hbn : Below wb.heap.size wb wb.drew := (Below.refl _ _).drew
  have HX := Lib.hid (HX.out.to hbn (Nat.le_refl _) hbn.size)
  clear hbn
  have HBc : Hid (Below wb.heap.size wb wc) := by show Below _ _ _; rw [hwc]; exact (Below.refl _ _).drew
  have hS : wc.cell? ⟨g2, 0, none⟩ = some (.func (.func f1) #[] cs1) ∧ wc.cell? ⟨g5, 0, none⟩ = some (.bool ngX) ∧ wc.cell? ⟨g5, 1, none⟩ = some (.slice AX nX cX) ∧ wc.cell? ⟨g5, 2, none⟩ = some (.slice DX dX eX) := by rw [hwc]; exact ⟨x0, qX0, qX1, qX2⟩
  have hg_0 : g2 < wc.heap.size := by rw [hwc]; exact blk_lt HX1.out
  have hg_1 : g5 < wc.heap.size := by rw [hwc]; exact blk_lt HBX.out
  rw [← hwc] at HX
  rw [← hwc]
  clear hwc
  refine HL.take (i := 0) (oi := _) (v := ?_) rfl (by kernel_rfl) (by kernel_rfl) (by decide) (fun _ _ _ h => h) (Or.inl ⟨by rfl, ?_⟩) hS ?_
  rotate_left
  · intro wz hwz
    try dsimp only at hwz
    go_simp
    try with_reducible rfl
  simp only [zA, zB, zC, Act.put, zD, zE, zF]
  refine HL.take (i := 1) (oi := _) (v := ?_) rfl (by kernel_rfl) (by kernel_rfl) (by decide) (fun _ _ _ h => h) (Or.inl ⟨by rfl, ?_⟩) hS ?_
  rotate_left
  · intro wz hwz
    try dsimp only at hwz
    go_simp
    try with_reducible rfl
  simp only [zA, zB, zC, Act.put, zD, zE, zF]
  refine HL.take (i := 2) (oi := _) (v := ?_) rfl (by kernel_rfl) (by kernel_rfl) (by decide) (fun _ _ _ h => h) (Or.inl ⟨by rfl, ?_⟩) hS ?_
  rotate_left
  · intro wz hwz
    try dsimp only at hwz
    go_simp
    try with_reducible rfl
  simp only [zA, zB, zC, Act.put, zD, zE, zF]
  refine HL.take (i := 3) (oi := _) (v := ?_) rfl (by kernel_rfl) (by kernel_rfl) (by decide) (fun _ _ _ h => h) (Or.inl ⟨by rfl, ?_⟩) hS ?_
  rotate_left
  · intro wz hwz
    try dsimp only at hwz
    go_simp
    try with_reducible rfl
  simp only [zA, zB, zC, Act.put, zD, zE, zF]
  refine HL.take (i := 4) (oi := _) (v := ?_) rfl (by kernel_rfl) (by kernel_rfl) (by decide) (fun _ _ _ h => h) (Or.inl ⟨by rfl, ?_⟩) hS ?_
  rotate_left
  · intro wz hwz
    try dsimp only at hwz
    go_simp
    try with_reducible rfl
  simp only [zA, zB, zC, Act.put, zD, zE, zF]
  refine HL.take (i := 7) (oi := _) (v := ?_) rfl (by kernel_rfl) (by kernel_rfl) (by decide) (fun _ _ _ h => h) (Or.inl ⟨by rfl, ?_⟩) hS ?_
  rotate_left
  · intro wz hwz
    try dsimp only at hwz
    go_simp
    try with_reducible rfl
  simp only [zA, zB, zC, Act.put, zD, zE, zF]
  refine HL.take (i := 8) (oi := _) (v := ?_) rfl (by kernel_rfl) (by kernel_rfl) (by decide) (fun _ _ _ h => h) (Or.inl ⟨by rfl, ?_⟩) hS ?_
  rotate_left
  · intro wz hwz
    try dsimp only at hwz
    go_simp
    try with_reducible rfl
  simp only [zA, zB, zC, Act.put, zD, zE, zF]
  refine HL.take (i := 9) (oi := _) (v := ?_) rfl (by kernel_rfl) (by kernel_rfl) (by decide) (fun _ _ _ h => h) (Or.inl ⟨by rfl, ?_⟩) hS ?_
  rotate_left
  · intro wz hwz
    try dsimp only at hwz
    go_simp
    try with_reducible rfl
  simp only [zA, zB, zC, Act.put, zD, zE, zF]
  refine HL.take (i := 10) (oi := _) (v := ?_) rfl (by kernel_rfl) (by kernel_rfl) (by decide) (fun _ _ _ h => h) (Or.inl ⟨by rfl, ?_⟩) hS ?_
  rotate_left
  · intro wz hwz
    try dsimp only at hwz
    go_simp
    try with_reducible rfl
  simp only [zA, zB, zC, Act.put, zD, zE, zF]
  refine HL.take (i := 12) (oi := _) (v := ?_) rfl (by kernel_rfl) (by kernel_rfl) (by decide) (fun _ _ _ h => h) (Or.inl ⟨by rfl, ?_⟩) hS ?_
  rotate_left
  · intro wz hwz
    try dsimp only at hwz
    go_simp
    try with_reducible rfl
  simp only [zA, zB, zC, Act.put, zD, zE, zF]
  refine HL.one (i := 5) (o := _) rfl (by kernel_rfl) (by decide) (by rfl) ?_
  intro K hK
  go_simp
  rw [IntWalk.i64_in (i - 1) (by omega)]
  refine (HF1.out.at_ HBc.out (i - 1) (by omega) (by omega)).mono ?_
  rintro e wn ⟨ng1, A1, n1, c1, D1, d1, e1, rfl, hH1, k1, m1, hbn⟩
  have H1 := Lib.hid hH1
  clear hH1
  replace HX := Lib.hid (HX.out.to hbn (Nat.le_refl _) hbn.size)
  have HBn := Lib.hid (HBc.out.trans (hbn.mono HBc.out.size))
  have hSn : wn.cell? ⟨g2, 0, none⟩ = some (.func (.func f1) #[] cs1) ∧ wn.cell? ⟨g5, 0, none⟩ = some (.bool ngX) ∧ wn.cell? ⟨g5, 1, none⟩ = some (.slice AX nX cX) ∧ wn.cell? ⟨g5, 2, none⟩ = some (.slice DX dX eX) := ⟨(hbn.cell (p := ⟨g2, 0, none⟩) hg_0).trans hS.1, (hbn.cell (p := ⟨g5, 0, none⟩) hg_1).trans hS.2.1, (hbn.cell (p := ⟨g5, 1, none⟩) hg_1).trans hS.2.2.1, (hbn.cell (p := ⟨g5, 2, none⟩) hg_1).trans hS.2.2.2⟩
  have hgn_0 := Nat.lt_of_lt_of_le hg_0 hbn.size
  have hgn_1 := Nat.lt_of_lt_of_le hg_1 hbn.size
  refine hK.out _ _ hSn ?_
  clear hK K hS HBc hg_0 hg_1
  try simp only [zA, zB, zC, Act.put, zD, zE, zF]
  have hS := hSn
  have HBc := HBn
  have hg_0 := hgn_0
  have hg_1 := hgn_1
  clear hSn HBn hbn hgn_0 hgn_1
  obtain ⟨wc, rfl⟩ : ∃ x : World, x = wn := ⟨_, rfl⟩
  refine HL.one (i := 6) (o := _) rfl (by kernel_rfl) (by decide) (by rfl) ?_
  intro K hK
  go_simp
  refine (QSUB_any ngX ng1 AX A1 DX D1 nX cX dX eX n1 c1 d1 e1 _ _ (by omega) (by omega) (by omega) (by omega) _ wc.heap.size (Nat.le_refl _) HX H1).mono ?_
  rintro e wn ⟨ng2, A2, n2, c2, D2, d2, e2, rfl, hH2, k2, m2, hbn⟩
  have H2 := Lib.hid hH2
  clear hH2
  clear H1
  replace HX := Lib.hid (HX.out.to hbn (Nat.le_refl _) hbn.size)
  have HBn := Lib.hid (HBc.out.trans (hbn.mono HBc.out.size))
  have hSn : wn.cell? ⟨g2, 0, none⟩ = some (.func (.func f1) #[] cs1) ∧ wn.cell? ⟨g5, 0, none⟩ = some (.bool ngX) ∧ wn.cell? ⟨g5, 1, none⟩ = some (.slice AX nX cX) ∧ wn.cell? ⟨g5, 2, none⟩ = some (.slice DX dX eX) := ⟨(hbn.cell (p := ⟨g2, 0, none⟩) hg_0).trans hS.1, (hbn.cell (p := ⟨g5, 0, none⟩) hg_1).trans hS.2.1, (hbn.cell (p := ⟨g5, 1, none⟩) hg_1).trans hS.2.2.1, (hbn.cell (p := ⟨g5, 2, none⟩) hg_1).trans hS.2.2.2⟩
  have hgn_0 := Nat.lt_of_lt_of_le hg_0 hbn.size
  have hgn_1 := Nat.lt_of_lt_of_le hg_1 hbn.size
  refine hK.out _ _ hSn ?_
  clear hK K hS HBc hg_0 hg_1
  try simp only [zA, zB, zC, Act.put, zD, zE, zF]
  have hS := hSn
  have HBc := HBn
  have hg_0 := hgn_0
  have hg_1 := hgn_1
  clear hSn HBn hbn hgn_0 hgn_1
  obtain ⟨wc, rfl⟩ : ∃ x : World, x = wn := ⟨_, rfl⟩
  refine HL.one (i := 11) (o := _) rfl (by kernel_rfl) (by decide) (by rfl) ?_
  intro K hK
  go_simp
  rw [IntWalk.i64_in (i + 1) (by omega)]
  refine (HF1.out.at_ HBc.out (i + 1) (by omega) (by omega)).mono ?_
  rintro e wn ⟨ng3, A3, n3, c3, D3, d3, e3, rfl, hH3, k3, m3, hbn⟩
  have H3 := Lib.hid hH3
  clear hH3
  replace HX := Lib.hid (HX.out.to hbn (Nat.le_refl _) hbn.size)
  replace H2 := Lib.hid (H2.out.to hbn (Nat.le_refl _) hbn.size)
  have HBn := Lib.hid (HBc.out.trans (hbn.mono HBc.out.size))
  have hSn : wn.cell? ⟨g2, 0, none⟩ = some (.func (.func f1) #[] cs1) ∧ wn.cell? ⟨g5, 0, none⟩ = some (.bool ngX) ∧ wn.cell? ⟨g5, 1, none⟩ = some (.slice AX nX cX) ∧ wn.cell? ⟨g5, 2, none⟩ = some (.slice DX dX eX) := ⟨(hbn.cell (p := ⟨g2, 0, none⟩) hg_0).trans hS.1, (hbn.cell (p := ⟨g5, 0, none⟩) hg_1).trans hS.2.1, (hbn.cell (p := ⟨g5, 1, none⟩) hg_1).trans hS.2.2.1, (hbn.cell (p := ⟨g5, 2, none⟩) hg_1).trans hS.2.2.2⟩
  have hgn_0 := Nat.lt_of_lt_of_le hg_0 hbn.size
  have hgn_1 := Nat.lt_of_lt_of_le hg_1 hbn.size
  refine hK.out _ _ hSn ?_
  clear hK K hS HBc hg_0 hg_1
  try simp only [zA, zB, zC, Act.put, zD, zE, zF]
  have hS := hSn
  have HBc := HBn
  have hg_0 := hgn_0
  have hg_1 := hgn_1
  clear hSn HBn hbn hgn_0 hgn_1
  obtain ⟨wc, rfl⟩ : ∃ x : World, x = wn := ⟨_, rfl⟩
  refine HL.one (i := 13) (o := _) rfl (by kernel_rfl) (by decide) (by rfl) ?_
  intro K hK
  go_simp
  refine (QSUB_any ng3 ngX A3 AX D3 DX n3 c3 d3 e3 nX cX dX eX _ _ (by omega) (by omega) (by omega) (by omega) _ wc.heap.size (Nat.le_refl _) H3 HX).mono ?_
  rintro e wn ⟨ng4, A4, n4, c4, D4, d4, e4, rfl, hH4, k4, m4, hbn⟩
  have H4 := Lib.hid hH4
  clear hH4
  clear HX H3
  replace H2 := Lib.hid (H2.out.to hbn (Nat.le_refl _) hbn.size)
  have HBn := Lib.hid (HBc.out.trans (hbn.mono HBc.out.size))
  have hSn : wn.cell? ⟨g2, 0, none⟩ = some (.func (.func f1) #[] cs1) ∧ wn.cell? ⟨g5, 0, none⟩ = some (.bool ngX) ∧ wn.cell? ⟨g5, 1, none⟩ = some (.slice AX nX cX) ∧ wn.cell? ⟨g5, 2, none⟩ = some (.slice DX dX eX) := ⟨(hbn.cell (p := ⟨g2, 0, none⟩) hg_0).trans hS.1, (hbn.cell (p := ⟨g5, 0, none⟩) hg_1).trans hS.2.1, (hbn.cell (p := ⟨g5, 1, none⟩) hg_1).trans hS.2.2.1, (hbn.cell (p := ⟨g5, 2, none⟩) hg_1).trans hS.2.2.2⟩
  have hgn_0 := Nat.lt_of_lt_of_le hg_0 hbn.size
  have hgn_1 := Nat.lt_of_lt_of_le hg_1 hbn.size
  refine hK.out _ _ hSn ?_
  clear hK K hS HBc hg_0 hg_1
  try simp only [zA, zB, zC, Act.put, zD, zE, zF]
  have hS := hSn
  have HBc := HBn
  have hg_0 := hgn_0
  have hg_1 := hgn_1
  clear hSn HBn hbn hgn_0 hgn_1
  obtain ⟨wc, rfl⟩ : ∃ x : World, x = wn := ⟨_, rfl⟩
  refine HL.one (i := 14) (o := _) rfl (by kernel_rfl) (by decide) (by rfl) ?_
  intro K hK
  go_simp
  refine (QCMP_any ng2 ng4 A2 A4 D2 D4 n2 c2 d2 e2 n4 c4 d4 e4 _ _ (by omega) (by omega) (by omega) (by omega) _ wc.heap.size (Nat.le_refl _) H2 H4).mono ?_
  rintro e wn ⟨rfl, hbn⟩
  clear H2 H4
  have HBn := Lib.hid (HBc.out.trans (hbn.mono HBc.out.size))
  have hSn : wn.cell? ⟨g2, 0, none⟩ = some (.func (.func f1) #[] cs1) ∧ wn.cell? ⟨g5, 0, none⟩ = some (.bool ngX) ∧ wn.cell? ⟨g5, 1, none⟩ = some (.slice AX nX cX) ∧ wn.cell? ⟨g5, 2, none⟩ = some (.slice DX dX eX) := ⟨(hbn.cell (p := ⟨g2, 0, none⟩) hg_0).trans hS.1, (hbn.cell (p := ⟨g5, 0, none⟩) hg_1).trans hS.2.1, (hbn.cell (p := ⟨g5, 1, none⟩) hg_1).trans hS.2.2.1, (hbn.cell (p := ⟨g5, 2, none⟩) hg_1).trans hS.2.2.2⟩
  have hgn_0 := Nat.lt_of_lt_of_le hg_0 hbn.size
  have hgn_1 := Nat.lt_of_lt_of_le hg_1 hbn.size
  refine hK.out _ _ hSn ?_
  clear hK K hS HBc hg_0 hg_1
  try simp only [zA, zB, zC, Act.put, zD, zE, zF]
  have hS := hSn
  have HBc := HBn
  have hg_0 := hgn_0
  have hg_1 := hgn_1
  clear hSn HBn hbn hgn_0 hgn_1
  obtain ⟨wc, rfl⟩ : ∃ x : World, x = wn := ⟨_, rfl⟩
  refine HL.take (i := 15) (oi := _) (v := ?_) rfl (by kernel_rfl) (by kernel_rfl) (by decide) (fun _ _ _ h => h) (Or.inl ⟨by rfl, ?_⟩) hS ?_
  rotate_left
  · intro wz hwz
    try dsimp only at hwz
    go_simp
    try with_reducible rfl
  simp only [zA, zB, zC, Act.put, zD, zE, zF]
  have HBd := Lib.hid (HBB.out.trans (HBc.out.mono HBB.out.size))
  refine HL.done (by kernel_rfl) ?_
  clear hS
  simp only [List.drop_succ_cons, List.drop_zero]
  go_wp2_with fail
  go_ret
  refine ⟨ret_bool ?_, HBd.out⟩
  by_cases h9 : q1 i - q1 (i - 1) = q1 (i + 1) - q1 i
  · rw [(cmpQ_zero _ _).2 h9, decide_eq_false (fun h => h h9)]; rfl
  · rw [decide_eq_true (p := q1 i - q1 (i - 1) ≠ q1 (i + 1) - q1 i) h9]
    have h8 : cmpQ (q1 i - q1 (i - 1)) (q1 (i + 1) - q1 i) ≠ 0 := fun h => h9 ((cmpQ_zero _ _).1 h)
    simpa using h8
set_option maxRecDepth 100000 in
theorem times_fn {g1 g2 : Nat} {f1 f2 : FuncId} {cs1 cs2 : Array Value} {DA DB : Nat → Prop} {q1 q2 : Int → Rat} {v1 : Value} {w : World} (h1 : w.heap[g1]? = some (.cells #[.func (.func f1) #[] cs1, v1] 116 (0, 0))) (h2 : w.heap[g2]? = some (.cells #[.func (.func f2) #[] cs2] 114 (0, 0)))
    (hF1 : FnAt DA w f1 cs1 q1 20000) (hF2 : FnAt DB w f2 cs2 q2 20000) : FnAt (fun b => DA b ∨ DB b ∨ b = g1 ∨ b = g2) w 95 #[.pointer (some ⟨g1, 0, none⟩), .pointer (some ⟨g2, 0, none⟩)] (fun i => q1 i * q2 i) 40000 :=
  ⟨fun b hb => by
    rcases hb with h | h | h | h
    · exact hF1.lt b h
    · exact hF2.lt b h
    · rw [h]; exact blk_lt h1
    · rw [h]; exact blk_lt h2, fun _ _ => rfl, fun w1 hs ha i hi1 hi2 =>
    TIMES1_any g1 g2 f1 f2 cs1 cs2 DA DB q1 q2 v1 i ⟨hi1, hi2⟩ w1 (Lib.hid ((ha g1 (.inr (.inr (.inl rfl)))).trans h1)) (Lib.hid ((ha g2 (.inr (.inr (.inr rfl)))).trans h2)) (Lib.hid (hF1.agree hs (fun b hb => ha b (.inl hb)))) (Lib.hid (hF2.agree hs (fun b hb => ha b (.inr (.inl hb)))))⟩
theorem load_point (w : World) (g : Nat) (v0 v1 v2 : Value) (h0 : w.cell? ⟨g, 0, none⟩ = some v0) (h1 : w.cell? ⟨g, 1, none⟩ = some v1) (h2 : w.cell? ⟨g, 2, none⟩ = some v2) :
    (loadVar 68 ⟨g, 0, none⟩).run Tryz.prog w = .ok (.agg #[v0, v1, v2]) w := by
  simp [loadVar, go_sem, h0, h1, h2]
theorem res_point {fn : Func} {p : Tmp} (h : fn.results = #[.cell p 68]) {tmps : Array Value} {w : World} {g : Nat} {v0 v1 v2 : Value} (hp : tmps.getD p undef = .pointer (some ⟨g, 0, none⟩))
    (h0 : w.cell? ⟨g, 0, none⟩ = some v0) (h1 : w.cell? ⟨g, 1, none⟩ = some v1) (h2 : w.cell? ⟨g, 2, none⟩ = some v2) : (results fn tmps).run Tryz.prog w = .ok (.agg #[v0, v1, v2]) w := by
  have hp' : tmps[p]?.getD undef = .pointer (some ⟨g, 0, none⟩) := by simpa using hp
  simp [results, h, hp', asAddr, load_point w g v0 v1 v2 h0 h1 h2]
theorem ptAgg_mk (i : Int) (s t : ByteArray) : ptAgg ⟨i, s, t⟩ = .agg #[.int .i64 i, .string s, .string t] := rfl
set_option maxRecDepth 100000 in
set_option maxHeartbeats 4000000 in
theorem PLAIN1_any (g2 : Nat) (f1 : FuncId) (cs1 : Array Value) (DA : Nat → Prop) (q1 : Int → Rat) (v1 : Value) (i : Int) (hi : -100000000000000 ≤ i ∧ i ≤ 100000000000000) (w : World) (h1 : Hid (w.heap[g2]? = some (.cells #[.func (.func f1) #[] cs1, v1] 116 (0, 0)))) (hF1 : Hid (FnAt DA w f1 cs1 q1 40000)) :
    Calls Tryz.prog 97 #[.int .i64 i, .pointer (some ⟨g2, 0, none⟩)] w fun e w' => e = .returned (ptAgg ⟨i, txN (q1 i), txD (q1 i)⟩) ∧ Below w.heap.size w w' := by
  rw [ptAgg_mk]
  obtain ⟨W, g, hW, hg, HG, HBW, HSW⟩ := cell_new w 68 #[.int .i64 0, .string ⟨#[]⟩, .string ⟨#[]⟩]
  have HG9 := Lib.hid hg
  have HX1 := Lib.hid ((HBW.out.block g2 (blk_lt h1.out)).trans h1.out)
  obtain ⟨x0, _, _, _⟩ := two_cells HX1.out
  have HF := Lib.hid (hF1.out.below HBW.out)
  have he1 := hF1.out.enter
  obtain ⟨hi1, hi2⟩ := hi
  go_enter Tryz.func97, Tryz.ntmps97
  go_upto_region 1 with (fail)
  rw [← hW, ← hg]
  clear hW hg
  go_wp2_with fail
  refine (HF.out.at_ (Below.refl _ _) i (by omega) (by omega)).mono ?_
  rintro e w1 ⟨ngX, AX, nX, cX, DX, dX, eX, rfl, h1, hkX, hlX, hb1⟩
  have H1 := Lib.hid h1
  have HB1 := Lib.hid (HBW.out.trans (hb1.mono HBW.out.size))
  have HH1 := Lib.hid ((hb1.block g (blk_lt HG.out)).trans HG.out)
  clear h1 hb1
  go_wp2_with fail
  refine (WRITTEN_any ngX AX DX nX cX dX eX (q1 i) (by omega) (by omega) w1 w1.heap.size (Nat.le_refl _) H1).mono ?_
  rintro e w2 ⟨rfl, hb2⟩
  have HB2 := Lib.hid (HB1.out.trans (hb2.mono HB1.out.size))
  have HH2 := Lib.hid ((hb2.block g (blk_lt HH1.out)).trans HH1.out)
  clear hb2 x0
  obtain ⟨hr0, hr1, hr2, hf0, hf1, hf2⟩ := three_cells HH2.out
  go_wp2_with fail
  exact bodyPost_ret (res_point rfl rfl (three_set _ _ _ _ _ _ _ _ hr0 hr1 hr2).1 (three_set _ _ _ _ _ _ _ _ hr0 hr1 hr2).2.1 (three_set _ _ _ _ _ _ _ _ hr0 hr1 hr2).2.2) rfl ⟨rfl, box3_below HB2.out (by have := HG9.out; omega)⟩
theorem OwnI.ints {w : World} {base n c : Nat} {A : Option Addr} {l : List Int} (h : OwnI w base (.slice A n c) l) : IntsAt w w.heap.size A n l := by
  obtain ⟨A', c', e, h1, h2⟩ := h.len
  injection e with e1 e2 e3
  subst e1
  subst e2
  refine ⟨rfl, fun k hk => ?_⟩
  obtain ⟨g, cap, e, _, hlt, _, _, hc⟩ := h.slot (by omega)
  injection e with e
  subst e
  refine ⟨⟨g, 0, none⟩, rfl, hlt, ?_⟩
  rw [show (⟨g, 0, none⟩ : Addr).add k = ⟨g, k, none⟩ by unfold Addr.add; split <;> simp_all]
  exact (hc k hk).1
theorem wpList_app_int {ops : Array Oper} {rest : List Oper} {o : Oper} {a : Act} {Q : Exit → Act → World → Prop} {w : World} (hgd : o.guard = none) (s x : Operand)
    (ho : o.op = .call { callee := .builtin .append, args := #[s, x], argTypes := #[42, 42] }) (base : Nat) (A0 : Option Addr) (n0 c0 : Nat) (L : List Int) (hs : a.eval s = .slice A0 n0 c0) (hown : OwnI w base (.slice A0 n0 c0) L)
    (B : Nat) (A : Option Addr) (m c : Nat) (M : List Int) (hx : a.eval x = .slice A m c) (hr : IntsAt w B A m M) (hle : n0 + m ≤ 8796093022207) (hb : base ≤ w.heap.size)
    (h : ∀ A' c' w', OwnI w' base (.slice A' (n0 + m) c') (L ++ M) → w.grownBy w' (Value.slice A0 n0 c0).ownBlock → wpList Tryz.prog ops Q rest (a.put o.dst (.slice A' (n0 + m) c')) w') :
    wpList Tryz.prog ops Q (o :: rest) a w := by
  obtain ⟨i1, e0, e1, e2, e3⟩ := info_parts one_int_info
  have hn0 : n0 = L.length := by
    obtain ⟨A', c', e, _, _⟩ := own_form hown
    injection e
  subst hn0
  refine wpList_append_any w hgd s x 42 ho base 3 i1 _ 1 8 Tryz.underlying42 e0 e1 e2 e3 rfl (by omega) _ L.length (L.map (Value.int .i64)) hs hown B A m c (M.map (Value.int .i64)) hx hr.reads (by intro u hu; simp at hu; obtain ⟨_, _, rfl⟩ := hu; rfl) (by simp only [maxLen]; omega) (by omega) hb ?_
  intro v' w' h1 h2 _
  have h4 : OwnI w' base v' (L ++ M) := by unfold OwnI; rw [List.map_append, List.length_append, hr.1]; exact h1
  obtain ⟨A', c', rfl, _, _⟩ := h4.len
  have hl : (L ++ M).length = L.length + m := by rw [List.length_append, hr.1]
  rw [hl] at h4 ⊢
  exact h A' c' w' h4 h2
set_option maxRecDepth 100000 in
set_option maxHeartbeats 4000000 in
theorem TIMES_any (f1 f2 : FuncId) (cs1 cs2 : Array Value) (DA DB : Nat → Prop) (q1 q2 : Int → Rat) (A1 : Option Addr) (n1 c1 r m cap base : Nat) (xs ys : List Int) (w : World) (hF1 : Hid (FnAt DA w f1 cs1 q1 20000)) (hF2 : Hid (FnAt DB w f2 cs2 q2 20000)) (hr1 : ¬ DA r) (hr2 : ¬ DB r) (hn1 : n1 ≤ 1000000) (hm : m ≤ 1000000) (hb : base ≤ r)
    (hA : Hid (IntsAt w w.heap.size A1 n1 ys)) (hO : Hid (OwnI w base (.slice (some ⟨r, 0, none⟩) m cap) xs)) :
    Calls Tryz.prog 53 #[.agg #[.func (.func f1) #[] cs1, .slice A1 n1 c1], .func (.func f2) #[] cs2, .slice (some ⟨r, 0, none⟩) m cap] w fun e w' => ∃ t1 t2 A' n' c', e = .returned (.agg #[.func (.func 95) #[] #[.pointer (some ⟨t1, 0, none⟩), .pointer (some ⟨t2, 0, none⟩)], .slice A' n' c']) ∧
      FnAt (fun b => DA b ∨ DB b ∨ b = t1 ∨ b = t2) w' 95 #[.pointer (some ⟨t1, 0, none⟩), .pointer (some ⟨t2, 0, none⟩)] (fun i => q1 i * q2 i) 40000 ∧ OwnI w' base (.slice A' n' c') (xs ++ ys) ∧ Below base w w' ∧ (∀ b, b < w.heap.size → b ≠ r → w'.heap[b]? = w.heap[b]?) := by
  obtain ⟨W, g, hW, hg, HG, HBW, HSW⟩ := boxes3 w (.cells #[.func (.func f1) #[] cs1, .slice A1 n1 c1] 116) (.cells #[.func (.func f2) #[] cs2] 114) (.cells #[.nilFunc, .slice none 0 0] 116)
  have HG9 := Lib.hid hg
  have HX1 := Lib.hid HG.out.1
  have HX2 := Lib.hid HG.out.2.1
  have HXR := Lib.hid HG.out.2.2
  obtain ⟨t2, ht2⟩ : ∃ f1, g + 1 = f1 := ⟨_, rfl⟩
  obtain ⟨t3, ht3⟩ : ∃ r1, t2 + 1 = r1 := ⟨_, rfl⟩
  rw [ht2] at HX2 HXR
  rw [ht3] at HXR
  have HR9 := Lib.hid (show t2 = g + 1 ∧ t3 = t2 + 1 by omega)
  obtain ⟨_, x1, _, _⟩ := two_cells HX1.out
  have hrlt : r < w.heap.size := (own_lt hO.out rfl).2
  have HOW := Lib.hid (hO.out.below HBW.out)
  have HAW : Hid (IntsAt W w.heap.size A1 n1 ys) := hA.out.below HBW.out (Nat.le_refl _)
  have hbW : base ≤ W.heap.size := by have := HBW.out.size; omega
  go_enter Tryz.func53, Tryz.ntmps53
  go_upto_region 1 with (fail)
  rw [← hW, ← hg, ht2, ht3]
  clear hW hg ht2 ht3
  go_wp2_with ((with_reducible refine wpList_app_int rfl (.tmp 8) (.tmp 10) rfl base (some ⟨r, 0, none⟩) m cap xs rfl HOW.out w.heap.size A1 n1 c1 ys rfl HAW.out (by omega) hbW ?_); intro A' c' w5 hown5 hgr5; have HO5 := Lib.hid hown5; have HGR := Lib.hid hgr5; have hgr9 : ∀ k, k < W.heap.size → k ≠ r → w5.heap[k]? = W.heap[k]? := fun k hk hne => hgr5.block k hk (by intro e; injection e with e; exact hne e); have hs5 := hgr5.size; have hg9 := HG9.out; have hr9 := HR9.out; have hsz := HSW.out; have HXR5 := Lib.hid ((hgr9 t3 (by omega) (by omega)).trans HXR.out); have HX15 := Lib.hid ((hgr9 g (by omega) (by omega)).trans HX1.out); have HX25 := Lib.hid ((hgr9 t2 (by omega) (by omega)).trans HX2.out); have HKP := Lib.hid hgr9; have HZ9 := Lib.hid (And.intro hg9 (And.intro hr9 (And.intro hsz hs5))); clear hown5 hgr5 hgr9 x1 hg9 hr9 hsz hs5; obtain ⟨r0, r9, f0, f9⟩ := two_cells HXR5.out)
  obtain ⟨hg9, hr9, hsz, hs5⟩ := HZ9.out
  refine bodyPost_ret (res_curve rfl rfl (two_set' _ _ _ _ _ _ r0 r9).1 (two_set' _ _ _ _ _ _ r0 r9).2) rfl ?_
  have hkeep : ∀ k, k ≠ t3 → (((w5.setCell ⟨t3, 0, none⟩ (.func (.func 95) #[] #[.pointer (some ⟨g, 0, none⟩), .pointer (some ⟨t2, 0, none⟩)])).setCell ⟨t3, 1, none⟩ (.slice A' (m + n1) c')).heap[k]? = w5.heap[k]?) := fun k hk => by
    rw [Below.heap_setCell _ _ _ _ (by simpa using hk), Below.heap_setCell _ _ _ _ (by simpa using hk)]
  have hkw : ∀ b, b < w.heap.size → b ≠ r → (((w5.setCell ⟨t3, 0, none⟩ (.func (.func 95) #[] #[.pointer (some ⟨g, 0, none⟩), .pointer (some ⟨t2, 0, none⟩)])).setCell ⟨t3, 1, none⟩ (.slice A' (m + n1) c')).heap[b]? = w.heap[b]?) := fun b hb1 hb2 =>
    (hkeep b (by omega)).trans ((HKP.out b (by omega) hb2).trans (HBW.out.block b hb1))
  refine ⟨g, t2, A', _, c', rfl, ?_, ?_, ?_, hkw⟩
  · exact times_fn ((hkeep g (by omega)).trans HX15.out) ((hkeep t2 (by omega)).trans HX25.out) (hF1.out.agree (by simp; omega) (fun b hb1 => hkw b (hF1.out.lt b hb1) (fun e => hr1 (e ▸ hb1)))) (hF2.out.agree (by simp; omega) (fun b hb1 => hkw b (hF2.out.lt b hb1) (fun e => hr2 (e ▸ hb1))))
  · have hne := own_ne_blk HO5.out HXR5.out (by decide)
    exact own_far (own_far HO5.out (p := ⟨t3, 0, none⟩) (.inr hne) _) (p := ⟨t3, 1, none⟩) (.inr hne) _
  · exact box2_below ((HBW.out.mono (by omega)).trans ((Below.refl base W).grown HGR.out hbW (fun b e => (own_lt HOW.out e).1))) (by omega)
end Go.Proofs.YtkmcohnhanphdaaGreatDoor
/- Curves: the breaks inside. -/
namespace Go.Proofs.YtkmcohnhanphdaaGreatDoor
open Go.RowKit Go.Dw
attribute [local go_sem ↓] Go.wp_at_zero Go.wp_at_succ
def inB (n b : Int) : Bool := decide (0 < b) && decide (b < n - 1)
def insL (n : Int) (bs : List Int) : List Int := [0, n - 1] ++ bs.filter (inB n)
theorem insL_take {n : Int} {bs : List Int} {k : Nat} (hk : k < bs.length) : insL n (bs.take (k + 1)) = insL n (bs.take k) ++ (if inB n (elOf bs k) = true then [elOf bs k] else []) := by
  have h : bs.take (k + 1) = bs.take k ++ [elOf bs k] := by rw [List.take_succ_eq_append_getElem hk]; simp [elOf, List.getD, hk]
  unfold insL
  rw [h, List.filter_append, List.append_assoc]
  by_cases h9 : inB n (elOf bs k) = true
  · simp [h9]
  · simp [h9]
theorem insL_len (n : Int) (bs : List Int) : (insL n bs).length ≤ bs.length + 2 := by
  unfold insL
  have := List.length_filter_le (inB n) bs
  simp; omega
theorem insL_mem {n : Int} (hn : 2 ≤ n) {bs : List Int} {x : Int} (h : x ∈ insL n bs) : 0 ≤ x ∧ x ≤ n - 1 := by
  unfold insL at h
  simp only [List.mem_append, List.mem_cons, List.not_mem_nil, or_false, List.mem_filter] at h
  rcases h with (h | h) | ⟨_, h⟩
  · omega
  · omega
  · unfold inB at h
    simp at h
    omega
set_option maxRecDepth 100000 in
set_option maxHeartbeats 4000000 in
theorem INSIDE_any (v0 : Value) (A : Option Addr) (m c : Nat) (bs : List Int) (n : Int) (hn : 2 ≤ n ∧ n ≤ 1000000) (hm : m ≤ 100000) (hcm : m ≤ c) (w : World) (B : Nat) (hB : B ≤ w.heap.size) (hh : Hid (IntsAt w B A m bs)) :
    Calls Tryz.prog 100 #[.agg #[v0, .slice A m c], .int .i64 n] w fun e w' => ∃ v, e = .returned v ∧ OwnI w' w.heap.size v (endsL (insL n bs)) ∧ Below w.heap.size w w' := by
  have hl := Lib.hid hh.out.1
  obtain ⟨hn1, hn2⟩ := hn
  obtain ⟨W, g, hW, hg, HG, HBW, HSW⟩ := cell_new w 116 #[v0, .slice A m c]
  obtain ⟨_, x1, _, _⟩ := two_cells HG.out
  have hhW : Hid (IntsAt W B A m bs) := hh.out.below HBW.out hB
  have hBW : B ≤ W.heap.size := Nat.le_trans hB HBW.out.size
  go_enter Tryz.func100, Tryz.ntmps100
  go_upto_region 1 with (fail)
  rw [← hW, ← hg]
  clear hW hg
  go_upto_region 2 with (fail)
  obtain ⟨X, q, hX, hq, HX, HBX, HSX⟩ := cell_new W 3 #[.int .i64 0, .int .i64 (n - 1)]
  rw [← hX, ← hq]
  have HOX : Hid (OwnI X W.heap.size (.slice (some ⟨q, 0, none⟩) 2 2) (insL n [])) := by
    rw [hX, hq]
    exact World.ownsRow_lit (base := W.heap.size) (size := 1) (e := 3) W #[.int .i64 0, .int .i64 (n - 1)] 2 (Nat.le_refl _) (by unfold maxLen; omega) rfl
  clear hX hq
  have x1 := (HBX.out.cell (p := ⟨g, 1, none⟩) (blk_lt HG.out)).trans x1
  go_wp2_with fail
  clear x1
  have HBX2 := Lib.hid (HBW.out.trans (HBX.out.mono HBW.out.size))
  have HWX := Lib.hid HBX.out
  go_loopw [5, 14] (fun v i wr => ∃ k : Nat, k ≤ m ∧ i = .int .i64 k ∧ Hid (OwnI wr W.heap.size v (insL n (bs.take k))) ∧ Hid (Below W.heap.size W wr)) (fun _ i _ => m - (intOf i).toNat)
  case atStart => exact ⟨0, Nat.zero_le _, rfl, HOX.out, HWX.out⟩
  case round =>
    obtain ⟨k, hk, rfl, HO, HB⟩ := hrel
    obtain ⟨A5, c5, rfl, _, _⟩ := HO.out.len
    by_cases hlt : k < m
    · have hk0 : (0 : Int) ≤ (k : Int) := by omega
      have hkn : (k : Int) < (m : Int) := by omega
      obtain ⟨ad, rfl, hb, hc⟩ := (hhW.out.below HB.out hBW).2 k hlt
      have HT := Lib.hid (insL_take (n := n) (bs := bs) (k := k) (by rw [hl.out]; exact hlt))
      obtain ⟨q5, hq5⟩ : ∃ q5, (insL n (bs.take k)).length = q5 := ⟨_, rfl⟩
      have hq9 : q5 ≤ 100002 := by rw [← hq5]; have := insL_len n (bs.take k); rw [List.length_take] at this; omega
      rw [hq5] at HO ⊢
      have HQ5 := Lib.hid hq5
      clear hq5
      obtain ⟨x, hx⟩ : ∃ x, elOf bs k = x := ⟨_, rfl⟩
      rw [hx] at hc HT
      clear hx
      have hszr : W.heap.size ≤ wr.heap.size := HB.out.size
      have NO : inB n x = false → ∃ k9 : Nat, k9 ≤ m ∧ Value.int .i64 ((k : Int) + 1) = .int .i64 k9 ∧ Hid (OwnI wr W.heap.size (.slice A5 q5 c5) (insL n (bs.take k9))) ∧ Hid (Below W.heap.size W wr) := fun h => ⟨k + 1, by omega, by go_num, by rw [HT.out, h, if_neg (by simp), List.append_nil]; exact HO.out, HB⟩
      have HNO := Lib.hid NO
      clear NO
      by_cases c1 : 0 < x
      · by_cases c2 : x < n - 1
        · have HYES : Hid (inB n x = true) := by show _ = _; unfold inB; rw [decide_eq_true c1, decide_eq_true c2]; rfl
          rw [HYES.out, if_pos rfl] at HT
          go_wp2_with (with_reducible refine wpList_push_one rfl (.tmp 26) (.tmp 28) rfl W.heap.size A5 q5 c5 _ x wr.heap.size rfl rfl rfl HO.out (by omega) hszr ?_; intro g5 cap5 w5 hown5 hb5)
          have HO5 := Lib.hid hown5
          have HB5 := Lib.hid (HB.out.trans hb5)
          clear hown5 hb5 hc
          go_roundw
          case rel => exact ⟨k + 1, by omega, by go_num, by rw [HT.out]; exact HO5.out, HB5⟩
          case measure => simp [intOf]; omega
        · have HNI : Hid (inB n x = false) := by show _ = _; unfold inB; rw [decide_eq_false c2, Bool.and_false]
          go_wp2_with fail
          go_roundw
          case rel => exact HNO.out HNI.out
          case measure => simp [intOf]; omega
      · have HNI : Hid (inB n x = false) := by show _ = _; unfold inB; rw [decide_eq_false c1]; rfl
        go_wp2_with fail
        go_roundw
        case rel => exact HNO.out HNI.out
        case measure => simp [intOf]; omega
    · obtain rfl : k = m := by omega
      have HTK : Hid (bs.take k = bs) := by show _ = _; rw [← hl.out, List.take_length]
      rw [HTK.out] at HO ⊢
      obtain ⟨q5, hq5⟩ : ∃ q5, (insL n bs).length = q5 := ⟨_, rfl⟩
      have hq9 : q5 ≤ 100002 := by rw [← hq5]; have := insL_len n bs; have := hl.out; omega
      have HQ5 := Lib.hid hq5
      rw [hq5] at HO ⊢
      clear hq5
      have hszr : W.heap.size ≤ wr.heap.size := HB.out.size
      go_wp2_with fail
      refine (SORT_own A5 q5 c5 (insL n bs) wr W.heap.size hszr (by have := HQ5.out; omega) HO).mono ?_
      rintro e w1 ⟨rfl, ho1, hb1⟩
      have HO1 := Lib.hid ho1
      have HB1 := Lib.hid (HB.out.trans hb1)
      clear ho1 hb1
      go_wp2_with fail
      refine (COMPACT_own A5 q5 c5 _ w1 W.heap.size HB1.out.size (by rw [List.length_mergeSort]; have := HQ5.out; omega) HO1).mono ?_
      rintro e w2 ⟨v, rfl, ho2, hb2⟩
      rw [ends_sorted] at ho2
      have HO2 := Lib.hid ho2
      have HB2 := Lib.hid (HB1.out.trans hb2)
      clear ho2 hb2
      go_wp2_with fail
      go_ret
      exact ⟨v, rfl, OwnI.to_base HO2.out HBW.out.size, HBW.out.trans (HB2.out.mono HBW.out.size)⟩
end Go.Proofs.YtkmcohnhanphdaaGreatDoor
