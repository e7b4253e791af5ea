/- edit.product (printed by tools/mkprod.py). -/
import Derived.Test.YtkmcohnhanphdaaGreatDoorCv3
set_option linter.unusedSimpArgs false
set_option linter.unusedVariables false
namespace Go.Proofs.YtkmcohnhanphdaaGreatDoor
open Go.RowKit Go.Dw
attribute [local go_sem ↓] Go.wp_at_zero Go.wp_at_succ
def prodF (c d : Cp) : Int := max c.from_ d.at_
def prodT (c d : Cp) : Int := min (c.from_ + c.len) (d.at_ + d.len)
def prodG (c d : Cp) (i : Int) : Rat := envV c.env (i + (prodF c d - c.from_)) * envV d.env (i + (prodF c d - d.at_))
def prodB (c d : Cp) : List Int := d.env.map (fun p => p.at_ - (prodF c d - d.at_)) ++ c.env.map (fun p => p.at_ - (prodF c d - c.from_))
def prodP (c d : Cp) : List Int := plainP (prodG c d) (prodB c d) (prodT c d - prodF c d)
def prodC (c d : Cp) : Cp := ⟨d.media, d.chan, d.from_ + prodF c d - d.at_, c.track, c.at_ + prodF c d - c.from_, prodT c d - prodF c d, (prodP c d).map (gPt (prodG c d))⟩
def prodOk (c d : Cp) : Prop := d.track = c.chan ∧ prodF c d < prodT c d
def clip0 : Value := .agg #[.string ⟨#[]⟩, .int .i64 0, .int .i64 0, .int .i64 0, .int .i64 0, .int .i64 0, .slice none 0 0]
theorem free7 {w : World} {g : Nat} {v0 v1 v2 v3 v4 v5 v6 : Value} {T : TypeId} (h : w.heap[g]? = some (.cells #[v0, v1, v2, v3, v4, v5, v6] T (0, 0))) : w.frozen? ⟨g, 0, none⟩ = false ∧ w.frozen? ⟨g, 1, none⟩ = false ∧ w.frozen? ⟨g, 2, none⟩ = false ∧ w.frozen? ⟨g, 3, none⟩ = false ∧ w.frozen? ⟨g, 4, none⟩ = false ∧ w.frozen? ⟨g, 5, none⟩ = false ∧ w.frozen? ⟨g, 6, none⟩ = false :=
  ⟨frozen_of_row w g 0 _ _ h, frozen_of_row w g 1 _ _ h, frozen_of_row w g 2 _ _ h, frozen_of_row w g 3 _ _ h, frozen_of_row w g 4 _ _ h, frozen_of_row w g 5 _ _ h, frozen_of_row w g 6 _ _ h⟩
theorem box7_heap {w : World} {g : Nat} {o0 o1 o2 o3 o4 o5 o6 v0 v1 v2 v3 v4 v5 v6 : Value} {T : TypeId} (h : w.heap[g]? = some (.cells #[o0, o1, o2, o3, o4, o5, o6] T (0, 0))) : (((((((w.setCell ⟨g, 0, none⟩ v0).setCell ⟨g, 1, none⟩ v1).setCell ⟨g, 2, none⟩ v2).setCell ⟨g, 3, none⟩ v3).setCell ⟨g, 4, none⟩ v4).setCell ⟨g, 5, none⟩ v5).setCell ⟨g, 6, none⟩ v6).heap[g]? = some (.cells #[v0, v1, v2, v3, v4, v5, v6] T (0, 0)) := by
  simp only [World.setCell, Array.getElem?_modify, h]
  simp
theorem box7_below {w0 w : World} {B g : Nat} {v0 v1 v2 v3 v4 v5 v6 : Value} (h : Below B w0 w) (hg : B ≤ g) : Below B w0 (((((((w.setCell ⟨g, 0, none⟩ v0).setCell ⟨g, 1, none⟩ v1).setCell ⟨g, 2, none⟩ v2).setCell ⟨g, 3, none⟩ v3).setCell ⟨g, 4, none⟩ v4).setCell ⟨g, 5, none⟩ v5).setCell ⟨g, 6, none⟩ v6) :=
  ((((box3_below h hg).setCell (p := ⟨g, 3, none⟩) hg v3).setCell (p := ⟨g, 4, none⟩) hg v4).setCell (p := ⟨g, 5, none⟩) hg v5).setCell (p := ⟨g, 6, none⟩) hg v6
theorem load_clip {w : World} {g : Nat} {v0 v1 v2 v3 v4 v5 v6 : Value} (h : w.heap[g]? = some (.cells #[v0, v1, v2, v3, v4, v5, v6] 58 (0, 0))) : (loadVar 58 ⟨g, 0, none⟩).run Tryz.prog w = .ok (.agg #[v0, v1, v2, v3, v4, v5, v6]) w := by
  obtain ⟨h0, h1, h2, h3, h4, h5, h6⟩ := seven_cells h
  simp [loadVar, go_sem, h0, h1, h2, h3, h4, h5, h6]
theorem res_clip2 {fn : Func} {p u : Tmp} (h : fn.results = #[.cell p 58, .tmp u]) {tmps : Array Value} {w : World} {g : Nat} {v0 v1 v2 v3 v4 v5 v6 : Value} (hp : tmps.getD p undef = .pointer (some ⟨g, 0, none⟩))
    (hh : w.heap[g]? = some (.cells #[v0, v1, v2, v3, v4, v5, v6] 58 (0, 0))) : (results fn tmps).run Tryz.prog w = .ok (.tuple #[.agg #[v0, v1, v2, v3, v4, v5, v6], tmps.getD u undef]) w := by
  have hp' : tmps[p]?.getD undef = .pointer (some ⟨g, 0, none⟩) := by simpa using hp
  simp [results, h, hp', asAddr, load_clip hh]
set_option maxRecDepth 100000 in
set_option maxHeartbeats 4000000 in
theorem PRODUCT_no (c d : Cp) (A A' : Option Addr) (n cap n' cap' : Nat) (hc : rangeC c 16) (hd : rangeC d 16) (hno : ¬ prodOk c d) (w : World) :
    Calls Tryz.prog 20 #[cpV c (.slice A n cap), cpV d (.slice A' n' cap')] w fun e w' => e = .returned (.tuple #[clip0, .bool false]) ∧ Below w.heap.size w w' := by
  unfold cpV clip0
  unfold rangeC at hc hd
  obtain ⟨W, g2, hW, hg, HG, HBW, HSW⟩ := boxes3 w (.cells #[.string c.media, .int .i64 c.chan, .int .i64 c.from_, .int .i64 c.track, .int .i64 c.at_, .int .i64 c.len, .slice A n cap] 58) (.cells #[.string d.media, .int .i64 d.chan, .int .i64 d.from_, .int .i64 d.track, .int .i64 d.at_, .int .i64 d.len, .slice A' n' cap'] 58) (.cells #[.string ⟨#[]⟩, .int .i64 0, .int .i64 0, .int .i64 0, .int .i64 0, .int .i64 0, .slice none 0 0] 58)
  have HG9 := Lib.hid hg
  have HX2 := Lib.hid HG.out.1
  have HX3 := Lib.hid HG.out.2.1
  have HX4 := Lib.hid HG.out.2.2
  obtain ⟨g3, hg3⟩ : ∃ f1, g2 + 1 = f1 := ⟨_, rfl⟩
  obtain ⟨g4, hg4⟩ : ∃ r1, g3 + 1 = r1 := ⟨_, rfl⟩
  rw [hg3] at HX3 HX4
  rw [hg4] at HX4
  have HR9 := Lib.hid (show g3 = g2 + 1 ∧ g4 = g3 + 1 by omega)
  obtain ⟨x0, x1, x2, x3, x4, x5, x6⟩ := seven_cells HX2.out
  obtain ⟨y0, y1, y2, y3, y4, y5, y6⟩ := seven_cells HX3.out
  obtain ⟨F, hF⟩ : ∃ F, prodF c d = F := ⟨_, rfl⟩
  obtain ⟨T, hT⟩ : ∃ T, prodT c d = T := ⟨_, rfl⟩
  have HF9 := Lib.hid hF
  have HT9 := Lib.hid hT
  have hFb : c.from_ ≤ F ∧ d.at_ ≤ F ∧ (F = c.from_ ∨ F = d.at_) := by rw [← hF]; unfold prodF; omega
  have hTb : T ≤ c.from_ + c.len ∧ T ≤ d.at_ + d.len ∧ (T = c.from_ + c.len ∨ T = d.at_ + d.len) := by rw [← hT]; unfold prodT; omega
  clear hF hT
  go_enter Tryz.func20, Tryz.ntmps20
  go_upto_region 1 with (fail)
  rw [← hW, ← hg, hg3, hg4]
  clear hW hg hg3 hg4
  refine wp_region_head 17 (fun x9 => x9.cell? ⟨g2, 2, none⟩ = some (.int .i64 c.from_) ∧ x9.cell? ⟨g2, 5, none⟩ = some (.int .i64 c.len) ∧ x9.cell? ⟨g3, 4, none⟩ = some (.int .i64 d.at_) ∧ x9.cell? ⟨g3, 5, none⟩ = some (.int .i64 d.len)) (by kernel_rfl) (by kernel_rfl) ?_
  obtain ⟨X, hX⟩ : ∃ X : World, X = W.drew := ⟨_, rfl⟩
  have HBX0 : Hid (Below W.heap.size W X) := by rw [hX]; exact (Below.refl _ _).drew
  have hS : X.cell? ⟨g2, 2, none⟩ = some (.int .i64 c.from_) ∧ X.cell? ⟨g2, 5, none⟩ = some (.int .i64 c.len) ∧ X.cell? ⟨g3, 4, none⟩ = some (.int .i64 d.at_) ∧ X.cell? ⟨g3, 5, none⟩ = some (.int .i64 d.len) := by rw [hX]; exact ⟨x2, x5, y4, y5⟩
  rw [← hX]
  clear hX x0 x1 x2 x3 x4 x5 x6 y0 y1 y2 y3 y4 y5 y6
  have hmx : max c.from_ d.at_ = F := HF9.out
  have hmn : min (c.from_ + c.len) (d.at_ + d.len) = T := HT9.out
  refine HL.take (i := 0) (oi := _) (v := ?_) rfl (by kernel_rfl) (by kernel_rfl) (by decide) (fun _ _ _ h => h) (Or.inl ⟨by rfl, ?_⟩) hS ?_
  rotate_left
  · intro wz hwz
    try dsimp only at hwz
    go_simp
    try with_reducible rfl
  simp only [zA, zB, zC, Act.put, zD, zE, zF]
  refine HL.take (i := 1) (oi := _) (v := ?_) rfl (by kernel_rfl) (by kernel_rfl) (by decide) (fun _ _ _ h => h) (Or.inl ⟨by rfl, ?_⟩) hS ?_
  rotate_left
  · intro wz hwz
    try dsimp only at hwz
    go_simp
    try with_reducible rfl
  simp only [zA, zB, zC, Act.put, zD, zE, zF]
  refine HL.take (i := 2) (oi := _) (v := ?_) rfl (by kernel_rfl) (by kernel_rfl) (by decide) (fun _ _ _ h => h) (Or.inl ⟨by rfl, ?_⟩) hS ?_
  rotate_left
  · intro wz hwz
    try dsimp only at hwz
    go_simp
    try with_reducible rfl
  simp only [zA, zB, zC, Act.put, zD, zE, zF]
  refine HL.take (i := 3) (oi := _) (v := ?_) rfl (by kernel_rfl) (by kernel_rfl) (by decide) (fun _ _ _ h => h) (Or.inl ⟨by rfl, ?_⟩) hS ?_
  rotate_left
  · intro wz hwz
    try dsimp only at hwz
    go_simp
    try with_reducible rfl
  simp only [zA, zB, zC, Act.put, zD, zE, zF]
  refine HL.take (i := 4) (oi := _) (v := (.int .i64 F)) rfl (by kernel_rfl) (by kernel_rfl) (by decide) (fun _ _ _ h => h) (Or.inl ⟨by rfl, ?_⟩) hS ?_
  · intro wz hwz
    first | exact hmx | (go_simp; done) | (go_simp; exact hmx) | (go_simp; simp only [hmx]; rfl) | (go_simp; simp only [hmx])
  simp only [zA, zB, zC, Act.put, zD, zE, zF]
  refine HL.take (i := 5) (oi := _) (v := ?_) rfl (by kernel_rfl) (by kernel_rfl) (by decide) (fun _ _ _ h => h) (Or.inl ⟨by rfl, ?_⟩) hS ?_
  rotate_left
  · intro wz hwz
    try dsimp only at hwz
    go_simp
    try with_reducible rfl
  simp only [zA, zB, zC, Act.put, zD, zE, zF]
  refine HL.take (i := 6) (oi := _) (v := ?_) rfl (by kernel_rfl) (by kernel_rfl) (by decide) (fun _ _ _ h => h) (Or.inl ⟨by rfl, ?_⟩) hS ?_
  rotate_left
  · intro wz hwz
    try dsimp only at hwz
    go_simp
    try with_reducible rfl
  simp only [zA, zB, zC, Act.put, zD, zE, zF]
  refine HL.take (i := 7) (oi := _) (v := ?_) rfl (by kernel_rfl) (by kernel_rfl) (by decide) (fun _ _ _ h => h) (Or.inl ⟨by rfl, ?_⟩) hS ?_
  rotate_left
  · intro wz hwz
    try dsimp only at hwz
    go_simp
    try with_reducible rfl
  simp only [zA, zB, zC, Act.put, zD, zE, zF]
  refine HL.take (i := 8) (oi := _) (v := ?_) rfl (by kernel_rfl) (by kernel_rfl) (by decide) (fun _ _ _ h => h) (Or.inl ⟨by rfl, ?_⟩) hS ?_
  rotate_left
  · intro wz hwz
    try dsimp only at hwz
    go_simp
    try with_reducible rfl
  simp only [zA, zB, zC, Act.put, zD, zE, zF]
  refine HL.take (i := 9) (oi := _) (v := ?_) rfl (by kernel_rfl) (by kernel_rfl) (by decide) (fun _ _ _ h => h) (Or.inl ⟨by rfl, ?_⟩) hS ?_
  rotate_left
  · intro wz hwz
    try dsimp only at hwz
    go_simp
    try with_reducible rfl
  simp only [zA, zB, zC, Act.put, zD, zE, zF]
  rw [IntWalk.i64_in (c.from_ + c.len) (by omega)]
  refine HL.take (i := 10) (oi := _) (v := ?_) rfl (by kernel_rfl) (by kernel_rfl) (by decide) (fun _ _ _ h => h) (Or.inl ⟨by rfl, ?_⟩) hS ?_
  rotate_left
  · intro wz hwz
    try dsimp only at hwz
    go_simp
    try with_reducible rfl
  simp only [zA, zB, zC, Act.put, zD, zE, zF]
  refine HL.take (i := 11) (oi := _) (v := ?_) rfl (by kernel_rfl) (by kernel_rfl) (by decide) (fun _ _ _ h => h) (Or.inl ⟨by rfl, ?_⟩) hS ?_
  rotate_left
  · intro wz hwz
    try dsimp only at hwz
    go_simp
    try with_reducible rfl
  simp only [zA, zB, zC, Act.put, zD, zE, zF]
  refine HL.take (i := 12) (oi := _) (v := ?_) rfl (by kernel_rfl) (by kernel_rfl) (by decide) (fun _ _ _ h => h) (Or.inl ⟨by rfl, ?_⟩) hS ?_
  rotate_left
  · intro wz hwz
    try dsimp only at hwz
    go_simp
    try with_reducible rfl
  simp only [zA, zB, zC, Act.put, zD, zE, zF]
  refine HL.take (i := 13) (oi := _) (v := ?_) rfl (by kernel_rfl) (by kernel_rfl) (by decide) (fun _ _ _ h => h) (Or.inl ⟨by rfl, ?_⟩) hS ?_
  rotate_left
  · intro wz hwz
    try dsimp only at hwz
    go_simp
    try with_reducible rfl
  simp only [zA, zB, zC, Act.put, zD, zE, zF]
  refine HL.take (i := 14) (oi := _) (v := ?_) rfl (by kernel_rfl) (by kernel_rfl) (by decide) (fun _ _ _ h => h) (Or.inl ⟨by rfl, ?_⟩) hS ?_
  rotate_left
  · intro wz hwz
    try dsimp only at hwz
    go_simp
    try with_reducible rfl
  simp only [zA, zB, zC, Act.put, zD, zE, zF]
  rw [IntWalk.i64_in (d.at_ + d.len) (by omega)]
  refine HL.take (i := 15) (oi := _) (v := (.int .i64 T)) rfl (by kernel_rfl) (by kernel_rfl) (by decide) (fun _ _ _ h => h) (Or.inl ⟨by rfl, ?_⟩) hS ?_
  · intro wz hwz
    first | exact hmn | (go_simp; done) | (go_simp; exact hmn) | (go_simp; simp only [hmn]; rfl) | (go_simp; simp only [hmn])
  simp only [zA, zB, zC, Act.put, zD, zE, zF]
  refine HL.take (i := 16) (oi := _) (v := ?_) rfl (by kernel_rfl) (by kernel_rfl) (by decide) (fun _ _ _ h => h) (Or.inl ⟨by rfl, ?_⟩) hS ?_
  rotate_left
  · intro wz hwz
    try dsimp only at hwz
    go_simp
    try with_reducible rfl
  simp only [zA, zB, zC, Act.put, zD, zE, zF]
  refine HL.done (by kernel_rfl) ?_
  clear hS
  simp only [List.drop_succ_cons, List.drop_zero]
  clear hmx hmn
  have HX2 := Lib.hid ((HBX0.out.block g2 (blk_lt HX2.out)).trans HX2.out)
  have HX3 := Lib.hid ((HBX0.out.block g3 (blk_lt HX3.out)).trans HX3.out)
  have HX4 := Lib.hid ((HBX0.out.block g4 (blk_lt HX4.out)).trans HX4.out)
  have HBX := Lib.hid (HBW.out.trans (HBX0.out.mono HBW.out.size))
  clear HBX0 HBW HG
  obtain ⟨x0, x1, x2, x3, x4, x5, x6⟩ := seven_cells HX2.out
  obtain ⟨y0, y1, y2, y3, y4, y5, y6⟩ := seven_cells HX3.out
  obtain ⟨z0, z1, z2, z3, z4, z5, z6⟩ := seven_cells HX4.out
  obtain ⟨f0, f1, f2, f3, f4, f5, f6⟩ := free7 HX4.out
  by_cases h1 : d.track = c.chan
  · have hd1 : (d.track != c.chan) = false := by simpa using h1
    have hge : T ≤ F := by
      refine Int.not_lt.1 (fun h => hno ⟨h1, ?_⟩)
      rw [HF9.out, HT9.out]
      exact h
    clear h1 hno
    go_upto_if 35 with (fail)
    go_wp2_with fail
    refine bodyPost_ret (res_clip2 rfl rfl (box7_heap HX4.out)) rfl ⟨rfl, box7_below HBX.out (by have := HR9.out; have := HG9.out; omega)⟩
  · have hd1 : (d.track != c.chan) = true := by simpa using h1
    clear h1 hno
    go_upto_if 35 with (fail)
    go_wp2_with fail
    refine bodyPost_ret (res_clip2 rfl rfl (box7_heap HX4.out)) rfl ⟨rfl, box7_below HBX.out (by have := HR9.out; have := HG9.out; omega)⟩
set_option maxRecDepth 100000 in
set_option maxHeartbeats 8000000 in
theorem PRODUCT_yes (c d : Cp) (A A' : Option Addr) (n cap n' cap' : Nat) (hc : rangeC c 16) (hd : rangeC d 16) (hok : Hid (EnvOk c.len c.env)) (hokd : Hid (EnvOk d.len d.env)) (hyes : prodOk c d) (w : World) (B : Nat) (hB : B ≤ w.heap.size) (hh : Hid (PtsAt w B A n c.env)) (hh' : Hid (PtsAt w B A' n' d.env)) :
    Calls Tryz.prog 20 #[cpV c (.slice A n cap), cpV d (.slice A' n' cap')] w fun e w' => ∃ v, e = .returned (.tuple #[cpV (prodC c d) v, .bool true]) ∧ OwnK 3 68 w' w.heap.size v ((prodC c d).env.map ptL) ∧ Below w.heap.size w w' := by
  unfold cpV
  unfold rangeC at hc hd
  obtain ⟨W, g2, hW, hg, HG, HBW, HSW⟩ := boxes3 w (.cells #[.string c.media, .int .i64 c.chan, .int .i64 c.from_, .int .i64 c.track, .int .i64 c.at_, .int .i64 c.len, .slice A n cap] 58) (.cells #[.string d.media, .int .i64 d.chan, .int .i64 d.from_, .int .i64 d.track, .int .i64 d.at_, .int .i64 d.len, .slice A' n' cap'] 58) (.cells #[.string ⟨#[]⟩, .int .i64 0, .int .i64 0, .int .i64 0, .int .i64 0, .int .i64 0, .slice none 0 0] 58)
  have HG9 := Lib.hid hg
  have HX2 := Lib.hid HG.out.1
  have HX3 := Lib.hid HG.out.2.1
  have HX4 := Lib.hid HG.out.2.2
  obtain ⟨g3, hg3⟩ : ∃ f1, g2 + 1 = f1 := ⟨_, rfl⟩
  obtain ⟨g4, hg4⟩ : ∃ r1, g3 + 1 = r1 := ⟨_, rfl⟩
  rw [hg3] at HX3 HX4
  rw [hg4] at HX4
  have HR9 := Lib.hid (show g3 = g2 + 1 ∧ g4 = g3 + 1 by omega)
  obtain ⟨x0, x1, x2, x3, x4, x5, x6⟩ := seven_cells HX2.out
  obtain ⟨y0, y1, y2, y3, y4, y5, y6⟩ := seven_cells HX3.out
  obtain ⟨F, hF⟩ : ∃ F, prodF c d = F := ⟨_, rfl⟩
  obtain ⟨T, hT⟩ : ∃ T, prodT c d = T := ⟨_, rfl⟩
  have HF9 := Lib.hid hF
  have HT9 := Lib.hid hT
  have hFb : c.from_ ≤ F ∧ d.at_ ≤ F ∧ (F = c.from_ ∨ F = d.at_) := by rw [← hF]; unfold prodF; omega
  have hTb : T ≤ c.from_ + c.len ∧ T ≤ d.at_ + d.len ∧ (T = c.from_ + c.len ∨ T = d.at_ + d.len) := by rw [← hT]; unfold prodT; omega
  clear hF hT
  go_enter Tryz.func20, Tryz.ntmps20
  go_upto_region 1 with (fail)
  rw [← hW, ← hg, hg3, hg4]
  clear hW hg hg3 hg4
  refine wp_region_head 17 (fun x9 => x9.cell? ⟨g2, 2, none⟩ = some (.int .i64 c.from_) ∧ x9.cell? ⟨g2, 5, none⟩ = some (.int .i64 c.len) ∧ x9.cell? ⟨g3, 4, none⟩ = some (.int .i64 d.at_) ∧ x9.cell? ⟨g3, 5, none⟩ = some (.int .i64 d.len)) (by kernel_rfl) (by kernel_rfl) ?_
  obtain ⟨X, hX⟩ : ∃ X : World, X = W.drew := ⟨_, rfl⟩
  have HBX0 : Hid (Below W.heap.size W X) := by rw [hX]; exact (Below.refl _ _).drew
  have hS : X.cell? ⟨g2, 2, none⟩ = some (.int .i64 c.from_) ∧ X.cell? ⟨g2, 5, none⟩ = some (.int .i64 c.len) ∧ X.cell? ⟨g3, 4, none⟩ = some (.int .i64 d.at_) ∧ X.cell? ⟨g3, 5, none⟩ = some (.int .i64 d.len) := by rw [hX]; exact ⟨x2, x5, y4, y5⟩
  rw [← hX]
  clear hX x0 x1 x2 x3 x4 x5 x6 y0 y1 y2 y3 y4 y5 y6
  have hmx : max c.from_ d.at_ = F := HF9.out
  have hmn : min (c.from_ + c.len) (d.at_ + d.len) = T := HT9.out
  refine HL.take (i := 0) (oi := _) (v := ?_) rfl (by kernel_rfl) (by kernel_rfl) (by decide) (fun _ _ _ h => h) (Or.inl ⟨by rfl, ?_⟩) hS ?_
  rotate_left
  · intro wz hwz
    try dsimp only at hwz
    go_simp
    try with_reducible rfl
  simp only [zA, zB, zC, Act.put, zD, zE, zF]
  refine HL.take (i := 1) (oi := _) (v := ?_) rfl (by kernel_rfl) (by kernel_rfl) (by decide) (fun _ _ _ h => h) (Or.inl ⟨by rfl, ?_⟩) hS ?_
  rotate_left
  · intro wz hwz
    try dsimp only at hwz
    go_simp
    try with_reducible rfl
  simp only [zA, zB, zC, Act.put, zD, zE, zF]
  refine HL.take (i := 2) (oi := _) (v := ?_) rfl (by kernel_rfl) (by kernel_rfl) (by decide) (fun _ _ _ h => h) (Or.inl ⟨by rfl, ?_⟩) hS ?_
  rotate_left
  · intro wz hwz
    try dsimp only at hwz
    go_simp
    try with_reducible rfl
  simp only [zA, zB, zC, Act.put, zD, zE, zF]
  refine HL.take (i := 3) (oi := _) (v := ?_) rfl (by kernel_rfl) (by kernel_rfl) (by decide) (fun _ _ _ h => h) (Or.inl ⟨by rfl, ?_⟩) hS ?_
  rotate_left
  · intro wz hwz
    try dsimp only at hwz
    go_simp
    try with_reducible rfl
  simp only [zA, zB, zC, Act.put, zD, zE, zF]
  refine HL.take (i := 4) (oi := _) (v := (.int .i64 F)) rfl (by kernel_rfl) (by kernel_rfl) (by decide) (fun _ _ _ h => h) (Or.inl ⟨by rfl, ?_⟩) hS ?_
  · intro wz hwz
    first | exact hmx | (go_simp; done) | (go_simp; exact hmx) | (go_simp; simp only [hmx]; rfl) | (go_simp; simp only [hmx])
  simp only [zA, zB, zC, Act.put, zD, zE, zF]
  refine HL.take (i := 5) (oi := _) (v := ?_) rfl (by kernel_rfl) (by kernel_rfl) (by decide) (fun _ _ _ h => h) (Or.inl ⟨by rfl, ?_⟩) hS ?_
  rotate_left
  · intro wz hwz
    try dsimp only at hwz
    go_simp
    try with_reducible rfl
  simp only [zA, zB, zC, Act.put, zD, zE, zF]
  refine HL.take (i := 6) (oi := _) (v := ?_) rfl (by kernel_rfl) (by kernel_rfl) (by decide) (fun _ _ _ h => h) (Or.inl ⟨by rfl, ?_⟩) hS ?_
  rotate_left
  · intro wz hwz
    try dsimp only at hwz
    go_simp
    try with_reducible rfl
  simp only [zA, zB, zC, Act.put, zD, zE, zF]
  refine HL.take (i := 7) (oi := _) (v := ?_) rfl (by kernel_rfl) (by kernel_rfl) (by decide) (fun _ _ _ h => h) (Or.inl ⟨by rfl, ?_⟩) hS ?_
  rotate_left
  · intro wz hwz
    try dsimp only at hwz
    go_simp
    try with_reducible rfl
  simp only [zA, zB, zC, Act.put, zD, zE, zF]
  refine HL.take (i := 8) (oi := _) (v := ?_) rfl (by kernel_rfl) (by kernel_rfl) (by decide) (fun _ _ _ h => h) (Or.inl ⟨by rfl, ?_⟩) hS ?_
  rotate_left
  · intro wz hwz
    try dsimp only at hwz
    go_simp
    try with_reducible rfl
  simp only [zA, zB, zC, Act.put, zD, zE, zF]
  refine HL.take (i := 9) (oi := _) (v := ?_) rfl (by kernel_rfl) (by kernel_rfl) (by decide) (fun _ _ _ h => h) (Or.inl ⟨by rfl, ?_⟩) hS ?_
  rotate_left
  · intro wz hwz
    try dsimp only at hwz
    go_simp
    try with_reducible rfl
  simp only [zA, zB, zC, Act.put, zD, zE, zF]
  rw [IntWalk.i64_in (c.from_ + c.len) (by omega)]
  refine HL.take (i := 10) (oi := _) (v := ?_) rfl (by kernel_rfl) (by kernel_rfl) (by decide) (fun _ _ _ h => h) (Or.inl ⟨by rfl, ?_⟩) hS ?_
  rotate_left
  · intro wz hwz
    try dsimp only at hwz
    go_simp
    try with_reducible rfl
  simp only [zA, zB, zC, Act.put, zD, zE, zF]
  refine HL.take (i := 11) (oi := _) (v := ?_) rfl (by kernel_rfl) (by kernel_rfl) (by decide) (fun _ _ _ h => h) (Or.inl ⟨by rfl, ?_⟩) hS ?_
  rotate_left
  · intro wz hwz
    try dsimp only at hwz
    go_simp
    try with_reducible rfl
  simp only [zA, zB, zC, Act.put, zD, zE, zF]
  refine HL.take (i := 12) (oi := _) (v := ?_) rfl (by kernel_rfl) (by kernel_rfl) (by decide) (fun _ _ _ h => h) (Or.inl ⟨by rfl, ?_⟩) hS ?_
  rotate_left
  · intro wz hwz
    try dsimp only at hwz
    go_simp
    try with_reducible rfl
  simp only [zA, zB, zC, Act.put, zD, zE, zF]
  refine HL.take (i := 13) (oi := _) (v := ?_) rfl (by kernel_rfl) (by kernel_rfl) (by decide) (fun _ _ _ h => h) (Or.inl ⟨by rfl, ?_⟩) hS ?_
  rotate_left
  · intro wz hwz
    try dsimp only at hwz
    go_simp
    try with_reducible rfl
  simp only [zA, zB, zC, Act.put, zD, zE, zF]
  refine HL.take (i := 14) (oi := _) (v := ?_) rfl (by kernel_rfl) (by kernel_rfl) (by decide) (fun _ _ _ h => h) (Or.inl ⟨by rfl, ?_⟩) hS ?_
  rotate_left
  · intro wz hwz
    try dsimp only at hwz
    go_simp
    try with_reducible rfl
  simp only [zA, zB, zC, Act.put, zD, zE, zF]
  rw [IntWalk.i64_in (d.at_ + d.len) (by omega)]
  refine HL.take (i := 15) (oi := _) (v := (.int .i64 T)) rfl (by kernel_rfl) (by kernel_rfl) (by decide) (fun _ _ _ h => h) (Or.inl ⟨by rfl, ?_⟩) hS ?_
  · intro wz hwz
    first | exact hmn | (go_simp; done) | (go_simp; exact hmn) | (go_simp; simp only [hmn]; rfl) | (go_simp; simp only [hmn])
  simp only [zA, zB, zC, Act.put, zD, zE, zF]
  refine HL.take (i := 16) (oi := _) (v := ?_) rfl (by kernel_rfl) (by kernel_rfl) (by decide) (fun _ _ _ h => h) (Or.inl ⟨by rfl, ?_⟩) hS ?_
  rotate_left
  · intro wz hwz
    try dsimp only at hwz
    go_simp
    try with_reducible rfl
  simp only [zA, zB, zC, Act.put, zD, zE, zF]
  refine HL.done (by kernel_rfl) ?_
  clear hS
  simp only [List.drop_succ_cons, List.drop_zero]
  clear hmx hmn
  have HX2 := Lib.hid ((HBX0.out.block g2 (blk_lt HX2.out)).trans HX2.out)
  have HX3 := Lib.hid ((HBX0.out.block g3 (blk_lt HX3.out)).trans HX3.out)
  have HX4 := Lib.hid ((HBX0.out.block g4 (blk_lt HX4.out)).trans HX4.out)
  have HBX := Lib.hid (HBW.out.trans (HBX0.out.mono HBW.out.size))
  clear HBX0 HBW HG
  obtain ⟨x0, x1, x2, x3, x4, x5, x6⟩ := seven_cells HX2.out
  obtain ⟨y0, y1, y2, y3, y4, y5, y6⟩ := seven_cells HX3.out
  obtain ⟨z0, z1, z2, z3, z4, z5, z6⟩ := seven_cells HX4.out
  obtain ⟨f0, f1, f2, f3, f4, f5, f6⟩ := free7 HX4.out
  have hd1 : (d.track != c.chan) = false := by simpa using hyes.1
  have hlt : F < T := by rw [← HF9.out, ← HT9.out]; exact hyes.2
  have HY := Lib.hid hyes
  clear hyes
  go_upto_region 4 with (fail)
  go_upto_region 5 with (fail)
  obtain ⟨wa, g8, hW, hg, HX8, HBa, HSa⟩ := cell_new0 X 58 #[.string d.media, .int .i64 d.chan, .int .i64 (d.from_ + F - d.at_), .int .i64 c.track, .int .i64 (c.at_ + F - c.from_), .int .i64 (T - F), .slice none 0 0]
  rw [← hW, ← hg]
  have HN48 : Hid (g4 < g8 ∧ w.heap.size ≤ g8) := by have h1 := blk_lt HX4.out; have h2 := HBX.out.size; show _ ∧ _; omega
  clear hW hg hd1 x0 x1 x2 x3 x4 x5 x6 y0 y1 y2 y3 y4 y5 y6 z0 z1 z2 z3 z4 z5 z6 f0 f1 f2 f3 f4 f5 f6
  have HX2a := Lib.hid ((HBa.out.block g2 (blk_lt HX2.out)).trans HX2.out)
  have HX3a := Lib.hid ((HBa.out.block g3 (blk_lt HX3.out)).trans HX3.out)
  have HX4a := Lib.hid ((HBa.out.block g4 (blk_lt HX4.out)).trans HX4.out)
  have HBa2 := Lib.hid (HBX.out.trans (HBa.out.mono HBX.out.size))
  have hBa3 : B ≤ wa.heap.size := Nat.le_trans hB HBa2.out.size
  have HPc : Hid (PtsAt wa B A n c.env) := hh.out.below HBa2.out hB
  have HPd : Hid (PtsAt wa B A' n' d.env) := hh'.out.below HBa2.out hB
  have HLD := Lib.hid hokd.out.some_
  obtain ⟨y0, y1, y2, y3, y4, y5, y6⟩ := seven_cells HX3a.out
  clear HX2 HX3 HX4 HBX HBa
  go_wp2_with fail
  refine (CURVEOF_any d A' n' cap' (F - d.at_) (by omega) (by omega) hokd wa B hBa3 HPd).mono ?_
  rintro e w1 ⟨b2, b3, v, rfl, hb2, hb23, hh2, hh3, hov, hb1⟩
  obtain ⟨r, cr, rfl, hr3, hrl, _, _, _⟩ := hov.slot (by rw [List.length_map]; exact HLD.out)
  obtain ⟨m, hm⟩ : ∃ m, (d.env.map (fun p => p.at_ - (F - d.at_))).length = m := ⟨_, rfl⟩
  have hm50 : m ≤ 50 := by rw [← hm, List.length_map]; exact hokd.out.few
  have HM := Lib.hid hm
  rw [hm] at hov ⊢
  clear hm y0 y1 y2 y3 y4 y5 y6
  have HFi0 := Lib.hid (curve_fn d A' n' cap' b2 b3 (F - d.at_) (by omega) (by omega) hokd w1 B (Nat.le_trans hBa3 hb1.size) (Lib.hid (HPd.out.below hb1 hBa3)) hh2 hh3)
  have HOi0 := Lib.hid hov
  have HX21 := Lib.hid ((hb1.block g2 (blk_lt HX2a.out)).trans HX2a.out)
  have HX41 := Lib.hid ((hb1.block g4 (blk_lt HX4a.out)).trans HX4a.out)
  have HX81 := Lib.hid ((hb1.block g8 (blk_lt HX8.out)).trans HX8.out)
  have HBb1 := Lib.hid (HBa2.out.trans (hb1.mono HBa2.out.size))
  have HPc1 : Hid (PtsAt w1 B A n c.env) := HPc.out.below hb1 hBa3
  have hB1 : B ≤ w1.heap.size := Nat.le_trans hBa3 hb1.size
  have g8a := blk_lt HX8.out
  have g2a := blk_lt HX2a.out
  have g4a := blk_lt HX4a.out
  have hws := HBa2.out.size
  clear hov hb1 hh2 hh3 HX8 HX2a HX3a HX4a HBa2 HPc HPd
  go_upto_region 6 with (fail)
  obtain ⟨wb, g9, hW, hg, HX9, HBb0, HSb⟩ := cell_new0 w1 116 #[.func (.func 94) #[] #[.pointer (some ⟨b2, 0, none⟩), .pointer (some ⟨b3, 0, none⟩)], .slice (some ⟨r, 0, none⟩) m cr]
  rw [← hW, ← hg]
  have HX2 := Lib.hid ((HBb0.out.block g2 (blk_lt HX21.out)).trans HX21.out)
  have HX4 := Lib.hid ((HBb0.out.block g4 (blk_lt HX41.out)).trans HX41.out)
  have HX8 := Lib.hid ((HBb0.out.block g8 (blk_lt HX81.out)).trans HX81.out)
  have HFi := Lib.hid (HFi0.out.below HBb0.out)
  have HOi := Lib.hid (HOi0.out.below HBb0.out)
  have HBb := Lib.hid (HBb1.out.trans (HBb0.out.mono HBb1.out.size))
  have HPb : Hid (PtsAt wb B A n c.env) := HPc1.out.below HBb0.out hB1
  have HBWb : Hid (B ≤ wb.heap.size) := Nat.le_trans hB1 HBb0.out.size
  have hn50 : n ≤ 50 := by have h1 := HPb.out.1; have h2 := hok.out.few; omega
  have hg9r : r < g9 := by omega
  have hwb1 := HBb0.out.size
  clear hW hg HX21 HX41 HX81 HFi0 HOi0 HBb1 HPc1 HBb0
  obtain ⟨x0, x1, x2, x3, x4, x5, x6⟩ := seven_cells HX2.out
  obtain ⟨y0, y1, _, _⟩ := two_cells HX9.out
  obtain ⟨_, _, _, _, _, z5, _⟩ := seven_cells HX8.out
  refine wp_region_head 14 (fun x9 => x9.cell? ⟨g2, 0, none⟩ = some (.string c.media) ∧ x9.cell? ⟨g2, 1, none⟩ = some (.int .i64 c.chan) ∧ x9.cell? ⟨g2, 2, none⟩ = some (.int .i64 c.from_) ∧ x9.cell? ⟨g2, 3, none⟩ = some (.int .i64 c.track) ∧ x9.cell? ⟨g2, 4, none⟩ = some (.int .i64 c.at_) ∧ x9.cell? ⟨g2, 5, none⟩ = some (.int .i64 c.len) ∧ x9.cell? ⟨g2, 6, none⟩ = some (.slice A n cap) ∧ x9.cell? ⟨g9, 0, none⟩ = some (.func (.func 94) #[] #[.pointer (some ⟨b2, 0, none⟩), .pointer (some ⟨b3, 0, none⟩)]) ∧ x9.cell? ⟨g9, 1, none⟩ = some (.slice (some ⟨r, 0, none⟩) m cr) ∧ x9.cell? ⟨g8, 5, none⟩ = some (.int .i64 (T - F))) (by kernel_rfl) (by kernel_rfl) ?_
  obtain ⟨wc, hwc⟩ : ∃ x : World, x = wb.drew := ⟨_, rfl⟩
  have hbn : Below wb.heap.size wb wb.drew := (Below.refl _ _).drew
  clear hbn
  have HBc : Hid (Below wb.heap.size wb wc) := by show Below _ _ _; rw [hwc]; exact (Below.refl _ _).drew
  have hS : wc.cell? ⟨g2, 0, none⟩ = some (.string c.media) ∧ wc.cell? ⟨g2, 1, none⟩ = some (.int .i64 c.chan) ∧ wc.cell? ⟨g2, 2, none⟩ = some (.int .i64 c.from_) ∧ wc.cell? ⟨g2, 3, none⟩ = some (.int .i64 c.track) ∧ wc.cell? ⟨g2, 4, none⟩ = some (.int .i64 c.at_) ∧ wc.cell? ⟨g2, 5, none⟩ = some (.int .i64 c.len) ∧ wc.cell? ⟨g2, 6, none⟩ = some (.slice A n cap) ∧ wc.cell? ⟨g9, 0, none⟩ = some (.func (.func 94) #[] #[.pointer (some ⟨b2, 0, none⟩), .pointer (some ⟨b3, 0, none⟩)]) ∧ wc.cell? ⟨g9, 1, none⟩ = some (.slice (some ⟨r, 0, none⟩) m cr) ∧ wc.cell? ⟨g8, 5, none⟩ = some (.int .i64 (T - F)) := by rw [hwc]; exact ⟨x0, x1, x2, x3, x4, x5, x6, y0, y1, z5⟩
  have hg_0 : g2 < wc.heap.size := by rw [hwc]; exact blk_lt HX2.out
  have hg_1 : g9 < wc.heap.size := by rw [hwc]; exact blk_lt HX9.out
  have hg_2 : g8 < wc.heap.size := by rw [hwc]; exact blk_lt HX8.out
  rw [← hwc]
  clear hwc
  refine HL.take (i := 0) (oi := _) (v := ?_) rfl (by kernel_rfl) (by kernel_rfl) (by decide) (fun _ _ _ h => h) (Or.inl ⟨by rfl, ?_⟩) hS ?_
  rotate_left
  · intro wz hwz
    try dsimp only at hwz
    go_simp
    try with_reducible rfl
  simp only [zA, zB, zC, Act.put, zD, zE, zF]
  refine HL.take (i := 1) (oi := _) (v := ?_) rfl (by kernel_rfl) (by kernel_rfl) (by decide) (fun _ _ _ h => h) (Or.inl ⟨by rfl, ?_⟩) hS ?_
  rotate_left
  · intro wz hwz
    try dsimp only at hwz
    go_simp
    try with_reducible rfl
  simp only [zA, zB, zC, Act.put, zD, zE, zF]
  refine HL.take (i := 2) (oi := _) (v := ?_) rfl (by kernel_rfl) (by kernel_rfl) (by decide) (fun _ _ _ h => h) (Or.inl ⟨by rfl, ?_⟩) hS ?_
  rotate_left
  · intro wz hwz
    try dsimp only at hwz
    go_simp
    try with_reducible rfl
  simp only [zA, zB, zC, Act.put, zD, zE, zF]
  refine HL.take (i := 3) (oi := _) (v := ?_) rfl (by kernel_rfl) (by kernel_rfl) (by decide) (fun _ _ _ h => h) (Or.inl ⟨by rfl, ?_⟩) hS ?_
  rotate_left
  · intro wz hwz
    try dsimp only at hwz
    go_simp
    try with_reducible rfl
  simp only [zA, zB, zC, Act.put, zD, zE, zF]
  refine HL.take (i := 4) (oi := _) (v := ?_) rfl (by kernel_rfl) (by kernel_rfl) (by decide) (fun _ _ _ h => h) (Or.inl ⟨by rfl, ?_⟩) hS ?_
  rotate_left
  · intro wz hwz
    try dsimp only at hwz
    go_simp
    try with_reducible rfl
  simp only [zA, zB, zC, Act.put, zD, zE, zF]
  refine HL.take (i := 6) (oi := _) (v := ?_) rfl (by kernel_rfl) (by kernel_rfl) (by decide) (fun _ _ _ h => h) (Or.inl ⟨by rfl, ?_⟩) hS ?_
  rotate_left
  · intro wz hwz
    try dsimp only at hwz
    go_simp
    try with_reducible rfl
  simp only [zA, zB, zC, Act.put, zD, zE, zF]
  refine HL.take (i := 7) (oi := _) (v := ?_) rfl (by kernel_rfl) (by kernel_rfl) (by decide) (fun _ _ _ h => h) (Or.inl ⟨by rfl, ?_⟩) hS ?_
  rotate_left
  · intro wz hwz
    try dsimp only at hwz
    go_simp
    try with_reducible rfl
  simp only [zA, zB, zC, Act.put, zD, zE, zF]
  refine HL.take (i := 8) (oi := _) (v := ?_) rfl (by kernel_rfl) (by kernel_rfl) (by decide) (fun _ _ _ h => h) (Or.inl ⟨by rfl, ?_⟩) hS ?_
  rotate_left
  · intro wz hwz
    try dsimp only at hwz
    go_simp
    try with_reducible rfl
  simp only [zA, zB, zC, Act.put, zD, zE, zF]
  refine HL.take (i := 9) (oi := _) (v := ?_) rfl (by kernel_rfl) (by kernel_rfl) (by decide) (fun _ _ _ h => h) (Or.inl ⟨by rfl, ?_⟩) hS ?_
  rotate_left
  · intro wz hwz
    try dsimp only at hwz
    go_simp
    try with_reducible rfl
  simp only [zA, zB, zC, Act.put, zD, zE, zF]
  refine HL.take (i := 11) (oi := _) (v := ?_) rfl (by kernel_rfl) (by kernel_rfl) (by decide) (fun _ _ _ h => h) (Or.inl ⟨by rfl, ?_⟩) hS ?_
  rotate_left
  · intro wz hwz
    try dsimp only at hwz
    go_simp
    try with_reducible rfl
  simp only [zA, zB, zC, Act.put, zD, zE, zF]
  refine HL.take (i := 12) (oi := _) (v := ?_) rfl (by kernel_rfl) (by kernel_rfl) (by decide) (fun _ _ _ h => h) (Or.inl ⟨by rfl, ?_⟩) hS ?_
  rotate_left
  · intro wz hwz
    try dsimp only at hwz
    go_simp
    try with_reducible rfl
  simp only [zA, zB, zC, Act.put, zD, zE, zF]
  refine HL.one (i := 5) (o := _) rfl (by kernel_rfl) (by decide) (by rfl) ?_
  intro K hK
  go_simp
  rw [IntWalk.i64_in (F - c.from_) (by omega)]
  have hwb0 := HBc.out.size
  refine (CURVEOF_any c A n cap (F - c.from_) (by omega) (by omega) hok wc B (Nat.le_trans HBWb.out HBc.out.size) (Lib.hid (HPb.out.below HBc.out HBWb.out))).mono ?_
  rintro e wn ⟨a2, a3, va, rfl, h2a, h23, ha2, ha3, hoa, hbn⟩
  have HBn := Lib.hid (HBc.out.trans (hbn.mono HBc.out.size))
  have hSn : wn.cell? ⟨g2, 0, none⟩ = some (.string c.media) ∧ wn.cell? ⟨g2, 1, none⟩ = some (.int .i64 c.chan) ∧ wn.cell? ⟨g2, 2, none⟩ = some (.int .i64 c.from_) ∧ wn.cell? ⟨g2, 3, none⟩ = some (.int .i64 c.track) ∧ wn.cell? ⟨g2, 4, none⟩ = some (.int .i64 c.at_) ∧ wn.cell? ⟨g2, 5, none⟩ = some (.int .i64 c.len) ∧ wn.cell? ⟨g2, 6, none⟩ = some (.slice A n cap) ∧ wn.cell? ⟨g9, 0, none⟩ = some (.func (.func 94) #[] #[.pointer (some ⟨b2, 0, none⟩), .pointer (some ⟨b3, 0, none⟩)]) ∧ wn.cell? ⟨g9, 1, none⟩ = some (.slice (some ⟨r, 0, none⟩) m cr) ∧ wn.cell? ⟨g8, 5, none⟩ = some (.int .i64 (T - F)) := ⟨(hbn.cell (p := ⟨g2, 0, none⟩) hg_0).trans hS.1, (hbn.cell (p := ⟨g2, 1, none⟩) hg_0).trans hS.2.1, (hbn.cell (p := ⟨g2, 2, none⟩) hg_0).trans hS.2.2.1, (hbn.cell (p := ⟨g2, 3, none⟩) hg_0).trans hS.2.2.2.1, (hbn.cell (p := ⟨g2, 4, none⟩) hg_0).trans hS.2.2.2.2.1, (hbn.cell (p := ⟨g2, 5, none⟩) hg_0).trans hS.2.2.2.2.2.1, (hbn.cell (p := ⟨g2, 6, none⟩) hg_0).trans hS.2.2.2.2.2.2.1, (hbn.cell (p := ⟨g9, 0, none⟩) hg_1).trans hS.2.2.2.2.2.2.2.1, (hbn.cell (p := ⟨g9, 1, none⟩) hg_1).trans hS.2.2.2.2.2.2.2.2.1, (hbn.cell (p := ⟨g8, 5, none⟩) hg_2).trans hS.2.2.2.2.2.2.2.2.2⟩
  have hgn_0 := Nat.lt_of_lt_of_le hg_0 hbn.size
  have hgn_1 := Nat.lt_of_lt_of_le hg_1 hbn.size
  have hgn_2 := Nat.lt_of_lt_of_le hg_2 hbn.size
  refine hK.out _ _ hSn ?_
  clear hK K hS HBc hg_0 hg_1 hg_2
  try simp only [zA, zB, zC, Act.put, zD, zE, zF]
  have hS := hSn
  have HBc := HBn
  have hg_0 := hgn_0
  have hg_1 := hgn_1
  have hg_2 := hgn_2
  clear hSn HBn hbn hgn_0 hgn_1 hgn_2
  obtain ⟨wc, rfl⟩ : ∃ x : World, x = wn := ⟨_, rfl⟩
  have HFc := Lib.hid (curve_fn c A n cap a2 a3 (F - c.from_) (by omega) (by omega) hok wc B (Nat.le_trans HBWb.out HBc.out.size) (Lib.hid (HPb.out.below HBc.out HBWb.out)) ha2 ha3)
  have HFd := Lib.hid (HFi.out.below HBc.out)
  have HOd := Lib.hid (HOi.out.below HBc.out)
  have hwbs := HBc.out.size
  obtain ⟨A1, c1, rfl, _, _⟩ := hoa.len
  have HIc := Lib.hid (hoa.ints)
  have HLc : Hid ((c.env.map (fun p => p.at_ - (F - c.from_))).length = n) := by show _ = _; rw [List.length_map]; exact HPb.out.1
  rw [HLc.out] at HIc ⊢
  have HX2c := Lib.hid ((HBc.out.block g2 (blk_lt HX2.out)).trans HX2.out)
  have HX4c := Lib.hid ((HBc.out.block g4 (blk_lt HX4.out)).trans HX4.out)
  have HX8c := Lib.hid ((HBc.out.block g8 (blk_lt HX8.out)).trans HX8.out)
  have HX9c := Lib.hid ((HBc.out.block g9 (blk_lt HX9.out)).trans HX9.out)
  have HBcw := Lib.hid (HBb.out.trans (HBc.out.mono HBb.out.size))
  clear hoa ha2 ha3
  refine HL.one (i := 10) (o := _) rfl (by kernel_rfl) (by decide) (by rfl) ?_
  intro K hK
  go_simp
  refine (TIMES_any 94 94 _ _ _ _ _ _ A1 n c1 r m cr (b3 + 1) _ _ wc HFc HFd (fun h => by rcases h with h | h | h <;> omega) (fun h => by rcases h with h | h | h <;> omega) (by omega) (by omega) (by omega) HIc HOd).mono ?_
  rintro e wn ⟨t1, t2, At, nt, ct, rfl, hft, hot, hbt, hkt⟩
  have HKT := Lib.hid hkt
  have g2l := blk_lt HX2c.out
  have g9l := blk_lt HX9c.out
  have g8l := blk_lt HX8c.out
  have g4l := blk_lt HX4c.out
  have HN9 := Lib.hid (show g2 ≠ r ∧ g9 ≠ r ∧ g8 ≠ r ∧ g4 ≠ r by omega)
  have HX2n := Lib.hid ((hkt g2 g2l HN9.out.1).trans HX2c.out)
  have HX9n := Lib.hid ((hkt g9 g9l HN9.out.2.1).trans HX9c.out)
  have HX8n := Lib.hid ((hkt g8 g8l HN9.out.2.2.1).trans HX8c.out)
  have HX4n := Lib.hid ((hkt g4 g4l HN9.out.2.2.2).trans HX4c.out)
  have HFT := Lib.hid hft
  have HOT := Lib.hid hot
  have HBT := Lib.hid (HBcw.out.trans ((hbt.mono (by omega)) : Below w.heap.size wc wn))
  clear hkt hft hot hbt
  obtain ⟨n0, n1, n2, n3, n4, n5, n6⟩ := seven_cells HX2n.out
  obtain ⟨m0, m1, _, _⟩ := two_cells HX9n.out
  obtain ⟨_, _, _, _, _, k5, _⟩ := seven_cells HX8n.out
  refine hK.out _ _ ⟨n0, n1, n2, n3, n4, n5, n6, m0, m1, k5⟩ ?_
  clear hK K hS
  try simp only [zA, zB, zC, Act.put, zD, zE, zF]
  have hS := And.intro n0 (And.intro n1 (And.intro n2 (And.intro n3 (And.intro n4 (And.intro n5 (And.intro n6 (And.intro m0 (And.intro m1 k5))))))))
  refine HL.one (i := 13) (o := _) rfl (by kernel_rfl) (by decide) (by rfl) ?_
  intro K hK
  go_simp
  have HNT : Hid (nt = (d.env.map (fun p => p.at_ - (F - d.at_)) ++ c.env.map (fun p => p.at_ - (F - c.from_))).length ∧ nt ≤ ct) := by
    obtain ⟨A8, c8, e8, h8, _⟩ := HOT.out.len
    injection e8 with _ e8 e9
    exact ⟨e8, by omega⟩
  have hnt : nt ≤ 100000 := by
    have h9 := HNT.out.1
    rw [List.length_append, List.length_map, List.length_map] at h9
    have := hok.out.few
    have := hokd.out.few
    omega
  refine (PLAIN_any 95 _ _ _ At nt ct _ (T - F) (by omega) hnt HNT.out.2 wn wn.heap.size (Nat.le_refl _) HFT (Lib.hid (HOT.out.ints))).mono ?_
  rintro e w7 ⟨v7, rfl, ho7, hb7⟩
  obtain ⟨A7, c7, rfl, _, _⟩ := ho7.form
  obtain ⟨n7, hn7⟩ : ∃ n7, (gL (fun i => envV c.env (i + (F - c.from_)) * envV d.env (i + (F - d.at_))) (plainP (fun i => envV c.env (i + (F - c.from_)) * envV d.env (i + (F - d.at_))) (d.env.map (fun p => p.at_ - (F - d.at_)) ++ c.env.map (fun p => p.at_ - (F - c.from_))) (T - F))).length = n7 := ⟨_, rfl⟩
  rw [hn7] at ho7 ⊢
  clear hn7
  have HO7 := Lib.hid ho7
  have HB7 := Lib.hid (HBT.out.trans (hb7.mono HBT.out.size))
  have HX47 := Lib.hid ((hb7.block g4 (blk_lt HX4n.out)).trans HX4n.out)
  have HX87 := Lib.hid ((hb7.block g8 (blk_lt HX8n.out)).trans HX8n.out)
  have HGS := Lib.hid (show g8 < wn.heap.size ∧ g4 < wn.heap.size from ⟨blk_lt HX8n.out, blk_lt HX4n.out⟩)
  have hSn := (show w7.cell? ⟨g2, 0, none⟩ = some (.string c.media) ∧ w7.cell? ⟨g2, 1, none⟩ = some (.int .i64 c.chan) ∧ w7.cell? ⟨g2, 2, none⟩ = some (.int .i64 c.from_) ∧ w7.cell? ⟨g2, 3, none⟩ = some (.int .i64 c.track) ∧ w7.cell? ⟨g2, 4, none⟩ = some (.int .i64 c.at_) ∧ w7.cell? ⟨g2, 5, none⟩ = some (.int .i64 c.len) ∧ w7.cell? ⟨g2, 6, none⟩ = some (.slice A n cap) ∧ w7.cell? ⟨g9, 0, none⟩ = some (.func (.func 94) #[] #[.pointer (some ⟨b2, 0, none⟩), .pointer (some ⟨b3, 0, none⟩)]) ∧ w7.cell? ⟨g9, 1, none⟩ = some (.slice (some ⟨r, 0, none⟩) m cr) ∧ w7.cell? ⟨g8, 5, none⟩ = some (.int .i64 (T - F)) from ⟨(hb7.cell (p := ⟨g2, 0, none⟩) (blk_lt HX2n.out)).trans n0, (hb7.cell (p := ⟨g2, 1, none⟩) (blk_lt HX2n.out)).trans n1, (hb7.cell (p := ⟨g2, 2, none⟩) (blk_lt HX2n.out)).trans n2, (hb7.cell (p := ⟨g2, 3, none⟩) (blk_lt HX2n.out)).trans n3, (hb7.cell (p := ⟨g2, 4, none⟩) (blk_lt HX2n.out)).trans n4, (hb7.cell (p := ⟨g2, 5, none⟩) (blk_lt HX2n.out)).trans n5, (hb7.cell (p := ⟨g2, 6, none⟩) (blk_lt HX2n.out)).trans n6, (hb7.cell (p := ⟨g9, 0, none⟩) (blk_lt HX9n.out)).trans m0, (hb7.cell (p := ⟨g9, 1, none⟩) (blk_lt HX9n.out)).trans m1, (hb7.cell (p := ⟨g8, 5, none⟩) (blk_lt HX8n.out)).trans k5⟩)
  refine hK.out _ _ hSn ?_
  clear hK K hS ho7 hb7 n0 n1 n2 n3 n4 n5 n6 m0 m1 k5
  try simp only [zA, zB, zC, Act.put, zD, zE, zF]
  have hS := hSn
  clear hSn
  refine HL.done (by kernel_rfl) ?_
  clear hS
  simp only [List.drop_succ_cons, List.drop_zero]
  obtain ⟨k0, k1, k2, k3, k4, k5, k6⟩ := seven_cells HX87.out
  obtain ⟨_, _, _, _, _, _, f6⟩ := free7 HX87.out
  obtain ⟨z0, z1, z2, z3, z4, z5, z6⟩ := seven_cells HX47.out
  obtain ⟨f40, f41, f42, f43, f44, f45, f46⟩ := free7 HX47.out
  have hn48 : ¬ g4 = g8 := by have := HN48.out; omega
  have hn84 : ¬ g8 = g4 := by have := HN48.out; omega
  go_wp2_with fail
  have hX4e : (w7.setCell ⟨g8, 6, none⟩ (.slice A7 n7 c7)).heap[g4]? = some (.cells #[.string ⟨#[]⟩, .int .i64 0, .int .i64 0, .int .i64 0, .int .i64 0, .int .i64 0, .slice none 0 0] 58 (0, 0)) := box_far HX47.out hn48 _ _
  have HGE : Hid (prodG c d = fun i => envV c.env (i + (F - c.from_)) * envV d.env (i + (F - d.at_))) := by show _ = _; funext i; unfold prodG; rw [HF9.out]
  have HPE : Hid (prodC c d = ⟨d.media, d.chan, d.from_ + F - d.at_, c.track, c.at_ + F - c.from_, T - F, (plainP (fun i => envV c.env (i + (F - c.from_)) * envV d.env (i + (F - d.at_))) (d.env.map (fun p => p.at_ - (F - d.at_)) ++ c.env.map (fun p => p.at_ - (F - c.from_))) (T - F)).map (gPt (fun i => envV c.env (i + (F - c.from_)) * envV d.env (i + (F - d.at_))))⟩) := by
    show _ = _
    unfold prodC prodP prodB
    rw [HGE.out, HF9.out, HT9.out]
  refine bodyPost_ret (res_clip2 rfl rfl (box7_heap hX4e)) rfl ⟨.slice A7 n7 c7, ?_, ?_, ?_⟩
  · rw [HPE.out]; rfl
  · rw [HPE.out, List.map_map]
    have h1 := HGS.out
    refine OwnK.to_base (base := wn.heap.size) ?_ (by have := HBT.out.size; omega)
    exact ((((((((HO7.out.far (p := ⟨g8, 6, none⟩) h1.1 _).far (p := ⟨g4, 0, none⟩) h1.2 _).far (p := ⟨g4, 1, none⟩) h1.2 _).far (p := ⟨g4, 2, none⟩) h1.2 _).far (p := ⟨g4, 3, none⟩) h1.2 _).far (p := ⟨g4, 4, none⟩) h1.2 _).far (p := ⟨g4, 5, none⟩) h1.2 _).far (p := ⟨g4, 6, none⟩) h1.2 _)
  · exact box7_below (HB7.out.setCell (p := ⟨g8, 6, none⟩) (show w.heap.size ≤ g8 from HN48.out.2) _) (by have := HR9.out; have := HG9.out; omega)
end Go.Proofs.YtkmcohnhanphdaaGreatDoor
/- slices.Clone at points; edit.own. -/
namespace Go.Proofs.YtkmcohnhanphdaaGreatDoor
open Go.RowKit Go.Dw
attribute [local go_sem ↓] Go.wp_at_zero Go.wp_at_succ
theorem point_info : (Tryz.prog.info? 68).map (fun i => (i.zero, i.size, i.bytes)) = some (some (.agg #[.int .i64 0, .string ⟨#[]⟩, .string ⟨#[]⟩]), 3, 40) := by kernel_rfl
theorem ptLs_three (l : List Pt) : ∀ x ∈ l.map ptL, x.length = 3 := by
  intro x hx
  obtain ⟨p, _, rfl⟩ := List.mem_map.1 hx
  rfl
theorem ptLs_one (l : List Pt) : ∀ u ∈ (l.map ptL).flatten, u.oneCell' = true := by
  intro u hu
  simp only [List.mem_flatten, List.mem_map] at hu
  obtain ⟨x, ⟨p, _, rfl⟩, h2⟩ := hu
  simp [ptL] at h2
  rcases h2 with rfl | rfl | rfl <;> rfl
theorem pt_rec {l : List Pt} {k : Nat} (hk : k < l.length) : recOf (l.map ptL) k = ptL (ptOf l k) := by
  simp [recOf, ptOf, List.getD, hk]
theorem PtsAt.reads {w : World} {B n : Nat} {A : Option Addr} {l : List Pt} (h : PtsAt w B A n l) : Reads w B 3 A n (l.map ptL).flatten := by
  refine ⟨by rw [flat_length (ptLs_three l), List.length_map, h.1], fun h0 => ?_⟩
  obtain ⟨b, o, e, hb, _⟩ := h.2 0 h0
  refine ⟨⟨b, o, none⟩, e, hb, fun j u hj => ?_⟩
  have hlt : j < n * 3 := by
    have := (List.getElem?_eq_some_iff.1 hj).1
    rwa [flat_length (ptLs_three l), List.length_map, h.1] at this
  obtain ⟨b', o', e', _, h1, h2, h3⟩ := h.2 (j / 3) (by omega)
  rw [e] at e'
  injection e' with e'
  injection e' with e1 e2
  subst e1 e2
  rw [show (⟨b, o, none⟩ : Addr).add j = ⟨b, o + j, none⟩ by unfold Addr.add; split <;> simp_all]
  have hq : j / 3 < l.length := by rw [h.1]; omega
  have hg : ∀ r, r < 3 → j % 3 = r → (ptL (ptOf l (j / 3)))[r]? = some u := fun r hr hjr => by
    have e3 : j = j / 3 * 3 + r := by omega
    rw [e3, flat_get (ptLs_three l) (by rw [List.length_map]; exact hq) hr, pt_rec hq] at hj
    exact hj
  rcases (show j % 3 = 0 ∨ j % 3 = 1 ∨ j % 3 = 2 by omega) with hr | hr | hr
  · have h9 := hg 0 (by omega) hr
    rw [show o + j = o + j / 3 * 3 by omega, h1]
    exact h9
  · have h9 := hg 1 (by omega) hr
    rw [show o + j = o + j / 3 * 3 + 1 by omega, h2]
    exact h9
  · have h9 := hg 2 (by omega) hr
    rw [show o + j = o + j / 3 * 3 + 2 by omega, h3]
    exact h9
theorem OwnK.pts {w : World} {base n c : Nat} {A : Option Addr} {l : List Pt} (h : OwnK 3 68 w base (.slice A n c) (l.map ptL)) : PtsAt w w.heap.size A n l ∧ n ≤ c ∧ c ≤ maxLen ∧ n = l.length := by
  obtain ⟨A', c', e, h1, h2⟩ := h.form
  injection e with e1 e2 e3
  subst e1
  subst e2
  subst e3
  refine ⟨⟨by simp, fun k hk => ?_⟩, h1, h2, List.length_map ..⟩
  rw [List.length_map] at hk
  obtain ⟨g, cap, e, _, hg, _, _, hc⟩ := h.slot (by rw [List.length_map]; omega) (by omega)
  injection e with e1 e2 _
  subst e1
  have hh := hc k (by rw [List.length_map]; exact hk)
  rw [pt_rec hk] at hh
  exact ⟨g, 0, rfl, hg, by rw [Nat.zero_add]; exact (hh 0 _ rfl).1, by rw [Nat.zero_add]; exact (hh 1 _ rfl).1, by rw [Nat.zero_add]; exact (hh 2 _ rfl).1⟩
set_option maxHeartbeats 1000000 in
theorem CLONEPT_any (A : Option Addr) (n c : Nat) (l : List Pt) (w : World) (B : Nat) (h : PtsAt w B A n l) (hn : n ≤ 1000000000) (hB : B ≤ w.heap.size) :
    Calls Tryz.prog 51 #[.slice A n c] w fun e w' => (∃ A' c', e = .returned (.slice A' n c') ∧ OwnK 3 68 w' w.heap.size (.slice A' n c') (l.map ptL)) ∧ Below w.heap.size w w' := by
  have hnil := fun (W : World) (a : Option Addr) (l c : Nat) => Lib.run_eql_slice_nil (P := Tryz.prog) W 56 68 a l c 0 0 Tryz.underlying56
  have h3 := Lib.hid (ptLs_three l)
  have hln := Lib.hid h.1
  cases A with
  | none =>
    have hn0 : n = 0 := by
      rcases Nat.eq_zero_or_pos n with h0 | h0
      · exact h0
      · obtain ⟨b, o, e, _⟩ := h.2 0 h0
        cases e
    subst hn0
    obtain rfl : l = [] := List.eq_nil_of_length_eq_zero h.1
    clear hln h3
    go_enter Tryz.func51, Tryz.ntmps51
    go_wp2
    go_ret
    exact ⟨⟨_, _, rfl, OwnK.nil _ _ _ _⟩, Below.refl _ _⟩
  | some ad =>
    have hr := Lib.hid h.reads
    clear h
    obtain ⟨i0, hi0, hz0, hz1, hz2⟩ := info_parts point_info
    go_enter Tryz.func51, Tryz.ntmps51
    go_wp2_with (at_builtin; refine wpList_append_any _ rfl (.tmp 5) (.tmp 6) _ rfl w.heap.size 68 i0 _ 3 40 Tryz.underlying56 hi0 hz0 hz1 hz2 rfl (by omega) (.slice (some ⟨w.heap.size, 0, none⟩) 0 0) 0 [] rfl (World.ownsRow_made w #[] 0 (Nat.le_refl _) (Nat.zero_le _) rfl) B (some ad) n c _ rfl (hr.out.alloc hB _) (ptLs_one l) (by simp only [maxLen]; omega) (by omega) (by simp) ?_; intro v1 w1 hown1 hg1 hat1)
    go_ret
    obtain ⟨A1, c1, rfl, _, _⟩ := own_form hown1
    refine ⟨⟨A1, c1, by simp, h3.out, ?_⟩, ((Below.refl _ _).alloc (Nat.le_refl _) _).trans ((Below.refl _ _).grown hg1 (by simp) (by simp [Value.ownBlock]))⟩
    rw [List.length_map, hln.out]
    simpa using hown1
theorem res_clip1 {fn : Func} {p : Tmp} (h : fn.results = #[.cell p 58]) {tmps : Array Value} {w : World} {g : Nat} {v0 v1 v2 v3 v4 v5 v6 : Value} (hp : tmps.getD p undef = .pointer (some ⟨g, 0, none⟩))
    (hh : w.heap[g]? = some (.cells #[v0, v1, v2, v3, v4, v5, v6] 58 (0, 0))) : (results fn tmps).run Tryz.prog w = .ok (.agg #[v0, v1, v2, v3, v4, v5, v6]) w := by
  have hp' : tmps[p]?.getD undef = .pointer (some ⟨g, 0, none⟩) := by simpa using hp
  simp [results, h, hp', asAddr, load_clip hh]
set_option maxRecDepth 100000 in
set_option maxHeartbeats 2000000 in
theorem EOWN_any (c : Cp) (A : Option Addr) (n cap : Nat) (hn : n ≤ 1000000) (w : World) (B : Nat) (hB : B ≤ w.heap.size) (hh : Hid (PtsAt w B A n c.env)) :
    Calls Tryz.prog 19 #[cpV c (.slice A n cap)] w fun e w' => ∃ A' c', e = .returned (cpV c (.slice A' n c')) ∧ OwnK 3 68 w' w.heap.size (.slice A' n c') (c.env.map ptL) ∧ Below w.heap.size w w' := by
  unfold cpV
  obtain ⟨W, g, hW, hg, HG, HBW, HSW⟩ := boxes2c w (.cells #[.string c.media, .int .i64 c.chan, .int .i64 c.from_, .int .i64 c.track, .int .i64 c.at_, .int .i64 c.len, .slice A n cap] 58) (.cells #[.string ⟨#[]⟩, .int .i64 0, .int .i64 0, .int .i64 0, .int .i64 0, .int .i64 0, .slice none 0 0] 58)
  obtain ⟨g2, hg2⟩ : ∃ g2, g + 1 = g2 := ⟨_, rfl⟩
  rw [hg2] at HG
  have HN := Lib.hid (show g2 ≠ g ∧ w.heap.size ≤ g ∧ w.heap.size ≤ g2 by omega)
  have HX1 := Lib.hid HG.out.1
  have HX2 := Lib.hid HG.out.2
  obtain ⟨x0, x1, x2, x3, x4, x5, x6⟩ := seven_cells HX1.out
  have hhW : Hid (PtsAt W B A n c.env) := hh.out.below HBW.out hB
  have hBW : B ≤ W.heap.size := Nat.le_trans hB HBW.out.size
  go_enter Tryz.func19, Tryz.ntmps19
  go_upto_region 1 with (fail)
  rw [← hW, ← hg, hg2]
  clear hW hg hg2 HG
  go_wp2_with fail
  refine (CLONEPT_any A n cap c.env W B hhW.out (by omega) hBW).mono ?_
  rintro e w1 ⟨⟨A', c', rfl, hown⟩, hb1⟩
  have HO := Lib.hid hown
  have HB1 := Lib.hid (HBW.out.trans (hb1.mono HBW.out.size))
  have HX11 := Lib.hid ((hb1.block g (blk_lt HX1.out)).trans HX1.out)
  have HX21 := Lib.hid ((hb1.block g2 (blk_lt HX2.out)).trans HX2.out)
  have HGS := Lib.hid (And.intro (blk_lt HX1.out) (blk_lt HX2.out))
  clear hown hb1 x0 x1 x2 x3 x4 x5 x6
  obtain ⟨x0, x1, x2, x3, x4, x5, x6⟩ := seven_cells HX11.out
  obtain ⟨f0, f1, f2, f3, f4, f5, f6⟩ := free7 HX11.out
  obtain ⟨y0, y1, y2, y3, y4, y5, y6⟩ := seven_cells HX21.out
  obtain ⟨k0, k1, k2, k3, k4, k5, k6⟩ := free7 HX21.out
  have hn1 : ¬ g2 = g := HN.out.1
  have hn2 : ¬ g = g2 := Ne.symm HN.out.1
  go_wp2_with fail
  have h8 : (w1.setCell ⟨g, 6, none⟩ (.slice A' n c')).heap[g2]? = some (.cells #[.string ⟨#[]⟩, .int .i64 0, .int .i64 0, .int .i64 0, .int .i64 0, .int .i64 0, .slice none 0 0] 58 (0, 0)) := box_far HX21.out hn1 _ _
  refine bodyPost_ret (res_clip1 rfl rfl (box7_heap h8)) rfl ⟨A', c', rfl, ?_, ?_⟩
  · have h1 := HGS.out
    refine OwnK.to_base (base := W.heap.size) ?_ HBW.out.size
    exact ((((((((HO.out.far (p := ⟨g, 6, none⟩) h1.1 _).far (p := ⟨g2, 0, none⟩) h1.2 _).far (p := ⟨g2, 1, none⟩) h1.2 _).far (p := ⟨g2, 2, none⟩) h1.2 _).far (p := ⟨g2, 3, none⟩) h1.2 _).far (p := ⟨g2, 4, none⟩) h1.2 _).far (p := ⟨g2, 5, none⟩) h1.2 _).far (p := ⟨g2, 6, none⟩) h1.2 _)
  · exact box7_below (HB1.out.setCell (p := ⟨g, 6, none⟩) (show w.heap.size ≤ g from HN.out.2.1) _) HN.out.2.2
end Go.Proofs.YtkmcohnhanphdaaGreatDoor
/- Sizes of factors; a composed clip fits. -/
namespace Go.Proofs.YtkmcohnhanphdaaGreatDoor
open Go.RowKit Go.Dw
def TnQ (q : Rat) (k : Nat) : Prop := q.num.natAbs < 10 ^ k ∧ q.den < 10 ^ k
theorem tnQ_mk {z : Int} {d k : Nat} (hd : 0 < d) (h1 : z.natAbs < 10 ^ k) (h2 : d < 10 ^ k) : TnQ (mkRat z d) k := by
  obtain ⟨e1, e2⟩ := mkRat_fields z d hd
  have hg : 0 < Nat.gcd z.natAbs d := Nat.gcd_pos_of_pos_right _ hd
  refine ⟨?_, ?_⟩
  · rw [e1]
    refine Nat.lt_of_le_of_lt ?_ h1
    rw [Int.natAbs_ediv_of_dvd (Int.ofNat_dvd_left.2 (Nat.gcd_dvd_left _ _))]
    exact Nat.div_le_self _ _
  · rw [e2]
    exact Nat.lt_of_le_of_lt (Nat.div_le_self _ _) h2
theorem tnQ_div {z : Int} {d : Int} {k : Nat} (hd : 0 < d) (h1 : z.natAbs < 10 ^ k) (h2 : d.natAbs < 10 ^ k) : TnQ ((z : Rat) / (d : Rat)) k := by
  have : (z : Rat) / (d : Rat) = mkRat z d.natAbs := by
    rw [Rat.mkRat_eq_div, show ((d.natAbs : Nat) : Rat) = (d : Rat) by rw [← Rat.intCast_natCast, Int.natAbs_of_nonneg (by omega)]]
  rw [this]
  exact tnQ_mk (by omega) h1 h2
theorem tnQ_norm {z : Int} {d k : Nat} {q : Rat} (hd : 0 < d) (h1 : z.natAbs < 10 ^ k) (h2 : d < 10 ^ k) (e : q = mkRat z d) : TnQ q k := by
  rw [e]; exact tnQ_mk hd h1 h2
theorem tnQ_mul {q r : Rat} {a b : Nat} (h : TnQ q a) (h' : TnQ r b) : TnQ (q * r) (a + b) := by
  have e : q * r = mkRat (q.num * r.num) (q.den * r.den) := by rw [Rat.mul_def, Rat.normalize_eq_mkRat]
  refine tnQ_norm (Nat.mul_pos q.den_pos r.den_pos) ?_ ?_ e
  · rw [Int.natAbs_mul, Nat.pow_add]; exact Nat.mul_lt_mul'' h.1 h'.1
  · rw [Nat.pow_add]; exact Nat.mul_lt_mul'' h.2 h'.2
theorem tnQ_add {q r : Rat} {a b : Nat} (h : TnQ q a) (h' : TnQ r b) : TnQ (q + r) (a + b + 1) := by
  have e : q + r = mkRat (q.num * r.den + r.num * q.den) (q.den * r.den) := by rw [Rat.add_def, Rat.normalize_eq_mkRat]
  have h1 := Nat.mul_lt_mul'' h.1 h'.2
  have h2 := Nat.mul_lt_mul'' h'.1 h.2
  have h3 := Nat.mul_lt_mul'' h.2 h'.2
  rw [← Nat.pow_add] at h1 h2 h3
  rw [Nat.add_comm b a] at h2
  refine tnQ_norm (Nat.mul_pos q.den_pos r.den_pos) ?_ ?_ e
  · have h4 := Int.natAbs_add_le (q.num * r.den) (r.num * q.den)
    rw [Int.natAbs_mul, Int.natAbs_mul, Int.natAbs_natCast, Int.natAbs_natCast] at h4
    rw [Nat.pow_succ]; omega
  · rw [Nat.pow_succ]; omega
theorem TnQ.le {q : Rat} {a b : Nat} (h : TnQ q a) (hab : a ≤ b) : TnQ q b :=
  ⟨Nat.lt_of_lt_of_le h.1 (Nat.pow_le_pow_right (by omega) hab), Nat.lt_of_lt_of_le h.2 (Nat.pow_le_pow_right (by omega) hab)⟩
theorem tnQ_neg {q : Rat} {a : Nat} (h : TnQ q a) : TnQ (-q) a := ⟨by rw [Rat.neg_num, Int.natAbs_neg]; exact h.1, by rw [Rat.neg_den]; exact h.2⟩
theorem tnQ_few {q : Rat} {k : Nat} (h : fewT q k = true) : TnQ q k := by
  obtain ⟨h1, h2⟩ := (few_iff q k).1 h
  have a1 := decV_lt (allDig_decDigits q.num.natAbs)
  have a2 := decV_lt (allDig_decDigits q.den)
  rw [decV_decDigits] at a1 a2
  exact ⟨Nat.lt_of_lt_of_le a1 (Nat.pow_le_pow_right (by omega) h1), Nat.lt_of_lt_of_le a2 (Nat.pow_le_pow_right (by omega) h2)⟩
theorem tnQ_rt {s t : ByteArray} {q : Rat} (h : Rt s t q) : TnQ q 2000 := tnQ_few h.few
theorem tnQ_frac {a b : Int} (hb : 0 < b) (ha : a.natAbs < 10 ^ 20) (hb2 : b.natAbs < 10 ^ 20) : TnQ ((a : Rat) / (b : Rat)) 20 := tnQ_div hb ha hb2
theorem env_tn {len : Int} {l : List Pt} (h : EnvOk len l) (hlen : len ≤ 100000) (i : Int) : TnQ (envV l i) 10000 := by
  have hpt : ∀ k, k < l.length → TnQ (ptV (ptOf l k)) 2000 := fun k hk => tnQ_rt (h.right _ (pt_mem hk))
  have h0 := h.some_
  have hle := envK_le l i
  unfold envV
  by_cases c1 : envK l i < l.length ∧ (ptOf l (envK l i)).at_ = i
  · rw [if_pos c1]; exact (hpt _ c1.1).le (by omega)
  rw [if_neg c1]
  by_cases c2 : envK l i = 0
  · rw [if_pos c2]; exact (hpt _ h0).le (by omega)
  rw [if_neg c2]
  by_cases c3 : envK l i = l.length
  · rw [if_pos c3]; exact (hpt _ (by omega)).le (by omega)
  rw [if_neg c3]
  have p1 := h.in_ _ (pt_mem (l := l) (k := envK l i - 1) (by omega))
  have p2 := h.in_ _ (pt_mem (l := l) (k := envK l i) (by omega))
  have hup := h.up (envK l i - 1) (envK l i) (by omega) (by omega)
  obtain ⟨q1, q2⟩ := envK_cut h.up i
  have hi1 := q1 (envK l i - 1) (by omega)
  have hi2 := q2 (envK l i) (Nat.le_refl _) (by omega)
  have e20 : (10 : Nat) ^ 20 = 100000000000000000000 := by decide
  have hf := tnQ_frac (a := i - (ptOf l (envK l i - 1)).at_) (b := (ptOf l (envK l i)).at_ - (ptOf l (envK l i - 1)).at_) (by omega) (by rw [e20]; omega) (by rw [e20]; omega)
  have a1 := hpt (envK l i - 1) (by omega)
  have a2 := hpt (envK l i) (by omega)
  have e9 : ptV (ptOf l (envK l i)) - ptV (ptOf l (envK l i - 1)) = ptV (ptOf l (envK l i)) + -ptV (ptOf l (envK l i - 1)) := Rat.sub_eq_add_neg _ _
  rw [e9]
  exact (tnQ_add a1 (tnQ_mul (tnQ_add a2 (tnQ_neg a1)) hf)).le (by omega)
theorem tn_size {q : Rat} {k : Nat} (h : TnQ q k) (hk : 0 < k) : (txN q).size ≤ k + 1 ∧ (txD q).size ≤ k := by
  have h1 := dec_len k _ hk h.1
  have h2 := dec_len k _ hk h.2
  refine ⟨?_, by rw [txD_size]; exact h2⟩
  rw [← len_data, txN_data]
  unfold numT
  rw [List.length_append]
  split <;> simp <;> omega
theorem prod_fits {c d : Cp} (hc : EnvOk c.len c.env) (hd : EnvOk d.len d.env) (hlc : c.len ≤ 100000) (hld : d.len ≤ 100000) (hm : d.media.size ≤ maxLen) : CpFits (prodC c d) := by
  refine ⟨hm, fun p hp => ?_⟩
  obtain ⟨i, _, rfl⟩ := List.mem_map.1 hp
  have h1 : TnQ (prodG c d i) 20000 := (tnQ_mul (env_tn hc hlc _) (env_tn hd hld _)).le (by omega)
  have h2 := tn_size h1 (by omega)
  show (txN _).size ≤ maxLen ∧ (txD _).size ≤ maxLen
  unfold maxLen
  omega
end Go.Proofs.YtkmcohnhanphdaaGreatDoor
