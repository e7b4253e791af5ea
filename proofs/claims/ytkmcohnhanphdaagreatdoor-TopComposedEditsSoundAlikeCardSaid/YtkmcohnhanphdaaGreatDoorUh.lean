/- edit.Compose. -/
import Derived.Test.YtkmcohnhanphdaaGreatDoorUg
import Derived.Test.YtkmcohnhanphdaaGreatDoorPla
set_option linter.unusedSimpArgs false
set_option linter.unusedVariables false
namespace Go.Proofs.YtkmcohnhanphdaaGreatDoor
open Go.RowKit Go.Dw
attribute [local go_sem ↓] Go.wp_at_zero Go.wp_at_succ
open Classical in
noncomputable def prodL (c : Cp) (ds : List Cp) : List Cp := ds.flatMap (fun d => if prodOk c d then [prodC c d] else [])
noncomputable def compM (s : ByteArray) (ds cs : List Cp) : List Cp := cs.flatMap (fun c => if c.media = s then prodL c ds else [])
def compO (s : ByteArray) (cs : List Cp) : List Cp := cs.flatMap (fun c => if c.media = s then [] else [c])
theorem str_is {a b : ByteArray} (h : a = b) : (a.toList == b.toList) = true := by rw [h]; simp
theorem str_not {a b : ByteArray} (h : ¬ a = b) : (a.toList == b.toList) = false := by
  have h1 : ¬ a.toList = b.toList := fun e => h (by
    rw [ByteArray.toList_eq, ByteArray.toList_eq] at e
    obtain ⟨⟨x⟩⟩ := a
    obtain ⟨⟨y⟩⟩ := b
    exact congrArg (fun z => ByteArray.mk ⟨z⟩) e)
  simpa using h1
theorem compO_take {s : ByteArray} {cs : List Cp} {k : Nat} (hk : k < cs.length) : compO s (cs.take (k + 1)) = compO s (cs.take k) ++ (if (cpOf cs k).media = s then [] else [cpOf cs k]) := by
  unfold compO; rw [take_cp hk, List.flatMap_append]; simp
theorem compM_take {s : ByteArray} {ds cs : List Cp} {k : Nat} (hk : k < cs.length) : compM s ds (cs.take (k + 1)) = compM s ds (cs.take k) ++ (if (cpOf cs k).media = s then prodL (cpOf cs k) ds else []) := by
  unfold compM; rw [take_cp hk, List.flatMap_append]; simp
open Classical in
theorem prodL_take {c : Cp} {ds : List Cp} {j : Nat} (hj : j < ds.length) : prodL c (ds.take (j + 1)) = prodL c (ds.take j) ++ (if prodOk c (cpOf ds j) then [prodC c (cpOf ds j)] else []) := by
  unfold prodL; rw [take_cp hj, List.flatMap_append]; simp
theorem rangeC16 {c : Cp} {t : Int} (h : rangeC c t) (ht : t ≤ 16) : rangeC c 16 := by
  unfold rangeC at h ⊢
  omega
theorem cvLs_one (l : List CV) : ∀ u ∈ (cvLs l).flatten, u.oneCell' = true := by
  intro u hu
  simp only [cvLs, List.mem_flatten, List.mem_map] at hu
  obtain ⟨x, ⟨p, _, rfl⟩, h2⟩ := hu
  simp [cvL] at h2
  rcases h2 with rfl | rfl | rfl | rfl | rfl | rfl | rfl <;> rfl
theorem wpList_app_cv {ops : Array Oper} {rest : List Oper} {o : Oper} {a : Act} {Q : Exit → Act → World → Prop} {w : World} (hgd : o.guard = none) (s x : Operand)
    (ho : o.op = .call { callee := .builtin .append, args := #[s, x], argTypes := #[22, 22] }) (base : Nat) (A A3 : Option Addr) (n n3 c c3 : Nat) (L1 L2 : List CV) (hs : a.eval s = .slice A n c) (hx : a.eval x = .slice A3 n3 c3) (hst : CoSt base w (.slice A n c) (.slice A3 n3 c3) L1 L2) (hle : n + n3 ≤ 100000000000) (hb : base ≤ w.heap.size)
    (h : ∀ A' c' w', OwnK 7 58 w' base (.slice A' (n + n3) c') (cvLs (L1 ++ L2)) → RecsAt w' (L1 ++ L2) → Below base w w' → wpList Tryz.prog ops Q rest (a.put o.dst (.slice A' (n + n3) c')) w') :
    wpList Tryz.prog ops Q (o :: rest) a w := by
  obtain ⟨i1, e0, e1, e2, e3⟩ := info_parts clip_info
  have hn : n = (cvLs L1).length := by
    obtain ⟨A', c', e, _, _⟩ := own_form hst.o1.2
    injection e
  have hn3 : n3 = (cvLs L2).length := by
    obtain ⟨A', c', e, _, _⟩ := own_form hst.o2.2
    injection e
  subst hn
  subst hn3
  refine wpList_append_any w hgd s x 22 ho base 58 i1 _ 7 80 Tryz.underlying22 e0 e1 e2 e3 rfl (by omega) _ (cvLs L1).length (cvLs L1).flatten hs hst.o1.2 w.heap.size A3 (cvLs L2).length c3 (cvLs L2).flatten hx (Reads.of_own hst.o2.2) (cvLs_one L2) (by simp only [maxLen]; omega) (by omega) hb ?_
  intro v' w' h1 h2 _
  have h4 : OwnK 7 58 w' base v' (cvLs (L1 ++ L2)) := by
    unfold cvLs at h1 ⊢
    rw [List.map_append]
    refine ⟨fun l hl => ?_, ?_⟩
    · rcases List.mem_append.1 hl with h9 | h9
      · exact hst.o1.1 l h9
      · exact hst.o2.1 l h9
    · rw [List.length_append, List.flatten_append]
      exact h1
  obtain ⟨A', c', rfl, _, _⟩ := h4.form
  have hl : (cvLs (L1 ++ L2)).length = (cvLs L1).length + (cvLs L2).length := by unfold cvLs; rw [List.map_append, List.length_append]
  rw [hl] at h4 ⊢
  have hr : RecsAt w' (L1 ++ L2) := RecsAt.grown (L := L1 ++ L2) (fun q hq => by
    rcases List.mem_append.1 hq with h9 | h9
    · exact hst.r1 q h9
    · exact hst.r2 q h9) hst.o1.2 h2
  exact h A' c' w' h4 hr ((Below.refl base w).grown h2 hb (fun b e => (own_lt hst.o1.2 e).1))
theorem cv_off {w w' : World} {base g m c : Nat} {A : Option Addr} {L : List CV} {cur : Array Value} (h : OwnK 7 58 w base (.slice A m c) (cvLs L) ∧ RecsAt w L) (hg : w.heap[g]? = some (.cells cur 24 (0, 0))) (hk : ∀ k, k < w.heap.size → k ≠ g → w'.heap[k]? = w.heap[k]?) : OwnK 7 58 w' base (.slice A m c) (cvLs L) ∧ RecsAt w' L := by
  refine ⟨⟨h.1.1, own_same h.1.2 (fun k hv => hk k (own_lt h.1.2 hv).2 (fun e => own_ne_blk h.1.2 hg (by decide) (e ▸ hv)))⟩, fun p hp => ?_⟩
  have h1 := h.2 p hp
  exact ⟨h1.1, own_same h1.2 (fun k hv => hk k (own_lt h1.2 hv).2 (fun e => own_ne_blk h1.2 hg (by decide) (e ▸ hv)))⟩
theorem ORDERED_cv (base m c : Nat) (A : Option Addr) (hm : m ≤ 1000000) (L : List CV) (w : World) (hb : base ≤ w.heap.size) (hh : Hid (OwnK 7 58 w base (.slice A m c) (cvLs L))) (hr : Hid (RecsAt w L)) :
    Calls Tryz.prog 22 #[.slice A m c] w fun e w' => e = .returned (.slice A m c) ∧ ∃ L', L'.Perm L ∧ OwnK 7 58 w' base (.slice A m c) (cvLs L') ∧ RecsAt w' L' ∧ Below base w w' := by
  have hml : m = L.length := by
    obtain ⟨A', c', e, _, _⟩ := hh.out.form
    rw [cvLs_len] at e
    injection e
  by_cases h0 : m = 0
  · subst h0
    have e0 : L = [] := List.length_eq_zero_iff.1 hml.symm
    subst e0
    refine (ORDERED_nil A c w).mono ?_
    rintro e w' ⟨rfl, rfl⟩
    exact ⟨rfl, [], List.Perm.refl _, hh.out, hr.out, Below.refl _ _⟩
  · obtain ⟨g, cap, e, hbg, hgl, _, _, _⟩ := hh.out.slot (by rw [cvLs_len]; omega) (by omega)
    injection e with e1 e2 e3
    subst e1
    refine (ORDERED_any base g m c hm L w hh).mono ?_
    rintro e w' ⟨rfl, L', hp, ho, ha⟩
    obtain ⟨cur, hg⟩ := own_block hh.out.2 (g := g) rfl
    refine ⟨rfl, L', hp, ho, fun p hp9 => ?_, Alt.below ha hb hbg⟩
    exact (hr.out p (hp.mem_iff.1 hp9)).off hg (fun k hk hne => ha.block k hk (by omega))
theorem compO_sub {s : ByteArray} {cs : List Cp} {c : Cp} (h : c ∈ compO s cs) : c ∈ cs := by
  unfold compO at h
  obtain ⟨d, hd, h1⟩ := List.mem_flatMap.1 h
  by_cases hm : d.media = s
  · rw [if_pos hm] at h1; cases h1
  · rw [if_neg hm] at h1
    rw [List.mem_singleton.1 h1]; exact hd
theorem compM_sub {s : ByteArray} {ds cs : List Cp} {x : Cp} (h : x ∈ compM s ds cs) : ∃ c ∈ cs, ∃ d ∈ ds, c.media = s ∧ prodOk c d ∧ x = prodC c d := by
  unfold compM at h
  obtain ⟨c, hc, h1⟩ := List.mem_flatMap.1 h
  by_cases hm : c.media = s
  · rw [if_pos hm] at h1
    unfold prodL at h1
    obtain ⟨d, hd, h2⟩ := List.mem_flatMap.1 h1
    by_cases hp : prodOk c d
    · rw [if_pos hp] at h2
      exact ⟨c, hc, d, hd, hm, hp, List.mem_singleton.1 h2⟩
    · rw [if_neg hp] at h2; cases h2
  · rw [if_neg hm] at h1; cases h1
set_option maxRecDepth 100000 in
set_option maxHeartbeats 16000000 in
theorem COMPOSE_any (rate tracks rate2 tracks2 : Int) (s : ByteArray) (hs : s.size ≤ 9223372036854775807) (A A2 : Option Addr) (n n2 cap cap2 : Nat) (cs ds : List Cp) (hz : Hid (∀ c ∈ cs, CpFits c)) (hz2 : Hid (∀ c ∈ ds, CpFits c))
    (w : World) (B : Nat) (hB : B ≤ w.heap.size) (hh : Hid (ClipsAt w B A n cs)) (hh2 : Hid (ClipsAt w B A2 n2 ds)) :
    Calls Tryz.prog 5 #[.agg #[.int .i64 rate, .int .i64 tracks, .slice A n cap], .string s, .agg #[.int .i64 rate2, .int .i64 tracks2, .slice A2 n2 cap2]] w fun e w' => Below w.heap.size w w' ∧ ((∃ f : Int, f ≠ 0 ∧ e = .returned (.tuple #[edit0, .int .i64 f])) ∨
      (∃ A' n' c' ls, e = .returned (.tuple #[.agg #[.int .i64 rate, .int .i64 tracks, .slice A' n' c'], .int .i64 0]) ∧ ClipsAt w' w'.heap.size A' n' ls ∧ ls.Perm (compO s cs ++ compM s ds cs) ∧ chkE rate tracks ls = 0 ∧ chkE rate tracks cs = 0 ∧ chkE rate2 tracks2 ds = 0 ∧ rate = rate2 ∧ nameN s.data.toList = true ∧ (∀ c ∈ cs, c.media = s → c.chan < tracks2))) := by
  unfold edit0
  have hl := Lib.hid hh.out.1
  have hl2 := Lib.hid hh2.out.1
  obtain ⟨W, g, hW, hg, HG, HBW, HSW⟩ := boxes3 w (.cells #[.int .i64 rate, .int .i64 tracks, .slice A n cap] 24) (.cells #[.int .i64 rate2, .int .i64 tracks2, .slice A2 n2 cap2] 24) (.cells #[.int .i64 0, .int .i64 0, .slice none 0 0] 24)
  obtain ⟨g5, hg5⟩ : ∃ g5, g + 1 = g5 := ⟨_, rfl⟩
  obtain ⟨g6, hg6⟩ : ∃ g6, g5 + 1 = g6 := ⟨_, rfl⟩
  rw [hg5, hg6] at HG
  have HN := Lib.hid (show w.heap.size ≤ g ∧ g < g5 ∧ g5 < g6 by omega)
  have HX3 := Lib.hid HG.out.1
  have HX5 := Lib.hid HG.out.2.1
  have HX6 := Lib.hid HG.out.2.2
  obtain ⟨x0, x1, x2, _, _, _⟩ := three_cells HX3.out
  have hhW : Hid (ClipsAt W B A n cs) := hh.out.below HBW.out hB
  have hBW : B ≤ W.heap.size := Nat.le_trans hB HBW.out.size
  go_enter Tryz.func5, Tryz.ntmps5
  go_upto_region 1 with (fail)
  rw [← hW, ← hg, hg5, hg6]
  clear hW hg hg5 hg6 HG HSW
  go_wp2_with fail
  refine (ECHECK_any rate tracks A n cap cs hz W B hBW hhW).mono ?_
  rintro e w1 ⟨rfl, hb1⟩
  obtain ⟨f, hf⟩ : ∃ f, chkE rate tracks cs = f := ⟨_, rfl⟩
  have HF := Lib.hid hf
  rw [hf]
  have HB1 := Lib.hid (HBW.out.trans (hb1.mono HBW.out.size))
  have HX31 := Lib.hid ((hb1.block g (blk_lt HX3.out)).trans HX3.out)
  have HX51 := Lib.hid ((hb1.block g5 (blk_lt HX5.out)).trans HX5.out)
  have HX61 := Lib.hid ((hb1.block g6 (blk_lt HX6.out)).trans HX6.out)
  clear hb1 hf x0 x1 x2 HX3 HX5 HX6 hhW
  have hgg : w.heap.size ≤ g6 := by have := HN.out; omega
  by_cases h1 : f = 0
  case neg =>
    have hd : (f != 0) = true := by simpa using h1
    obtain ⟨y0, y1, y2, k0, k1, k2⟩ := three_cells HX61.out
    go_wp2_with fail
    refine bodyPost_ret (res_edit2 rfl rfl (box3_heap HX61.out)) rfl ⟨box3_below HB1.out hgg, .inl ⟨_, h1, rfl⟩⟩
  subst h1
  obtain ⟨x0, x1, x2, _, _, _⟩ := three_cells HX51.out
  have hh21 : Hid (ClipsAt w1 B A2 n2 ds) := hh2.out.below HB1.out hB
  have hBW1 : B ≤ w1.heap.size := Nat.le_trans hB HB1.out.size
  go_wp2_with fail
  refine (ECHECK_any rate2 tracks2 A2 n2 cap2 ds hz2 w1 B hBW1 hh21).mono ?_
  rintro e w2 ⟨rfl, hb1⟩
  obtain ⟨f, hf⟩ : ∃ f, chkE rate2 tracks2 ds = f := ⟨_, rfl⟩
  have HF2 := Lib.hid hf
  rw [hf]
  have HB2 := Lib.hid (HB1.out.trans (hb1.mono HB1.out.size))
  have HX32 := Lib.hid ((hb1.block g (blk_lt HX31.out)).trans HX31.out)
  have HX52 := Lib.hid ((hb1.block g5 (blk_lt HX51.out)).trans HX51.out)
  have HX62 := Lib.hid ((hb1.block g6 (blk_lt HX61.out)).trans HX61.out)
  clear hb1 hf x0 x1 x2 HX31 HX51 HX61 hh21 HB1 hBW1 hBW HBW
  by_cases h1 : f = 0
  case neg =>
    have hd : (f != 0) = true := by simpa using h1
    obtain ⟨y0, y1, y2, k0, k1, k2⟩ := three_cells HX62.out
    go_wp2_with fail
    refine bodyPost_ret (res_edit2 rfl rfl (box3_heap HX62.out)) rfl ⟨box3_below HB2.out hgg, .inl ⟨_, h1, rfl⟩⟩
  subst h1
  have HOK := Lib.hid (chkE_ok HF.out)
  have HOK2 := Lib.hid (chkE_ok HF2.out)
  obtain ⟨x0, x1, x2, _, _, _⟩ := three_cells HX32.out
  obtain ⟨z0, z1, z2, _, _, _⟩ := three_cells HX52.out
  by_cases h2 : rate = rate2
  case neg =>
    have hd : (rate != rate2) = true := by simpa using h2
    obtain ⟨y0, y1, y2, k0, k1, k2⟩ := three_cells HX62.out
    go_wp2_with fail
    refine bodyPost_ret (res_edit2 rfl rfl (box3_heap HX62.out)) rfl ⟨box3_below HB2.out hgg, .inl ⟨_, (by decide), rfl⟩⟩
  have hd : (rate != rate2) = false := by simpa using h2
  go_wp2_with fail
  refine (EISNAME_any s hs w2).mono ?_
  rintro e w3 ⟨rfl, hb1⟩
  obtain ⟨bn, hbn⟩ : ∃ bn, nameN s.data.toList = bn := ⟨_, rfl⟩
  have HNM := Lib.hid hbn
  rw [hbn]
  have HB3 := Lib.hid (HB2.out.trans (hb1.mono HB2.out.size))
  have HX33 := Lib.hid ((hb1.block g (blk_lt HX32.out)).trans HX32.out)
  have HX53 := Lib.hid ((hb1.block g5 (blk_lt HX52.out)).trans HX52.out)
  have HX63 := Lib.hid ((hb1.block g6 (blk_lt HX62.out)).trans HX62.out)
  clear hb1 hbn x0 x1 x2 z0 z1 z2 HX32 HX52 HX62 HB2 hd
  have HR := Lib.hid h2
  clear h2
  cases bn with
  | false =>
    obtain ⟨y0, y1, y2, k0, k1, k2⟩ := three_cells HX63.out
    go_wp2_with fail
    refine bodyPost_ret (res_edit2 rfl rfl (box3_heap HX63.out)) rfl ⟨box3_below HB3.out hgg, .inl ⟨_, (by decide), rfl⟩⟩
  | true =>
  obtain ⟨x0, x1, x2, _, _, _⟩ := three_cells HX33.out
  obtain ⟨z0, z1, z2, _, _, _⟩ := three_cells HX53.out
  go_wp2_with fail
  clear x0 x1 x2 z0 z1 z2
  have hn300 : n ≤ 300 := by have := HOK.out.few; have := hl.out; omega
  have hn2300 : n2 ≤ 300 := by have := HOK2.out.few; have := hl2.out; omega
  have hB3 : B ≤ w3.heap.size := Nat.le_trans hB HB3.out.size
  have HC3 : Hid (ClipsAt w3 B A n cs) := hh.out.below HB3.out hB
  have HW3 : Hid (Below w3.heap.size w3 w3) := Below.refl _ _
  go_loopw [45] (fun i wr => ∃ k : Nat, k ≤ n ∧ i = .int .i64 k ∧ Hid (∀ j, j < k → (cpOf cs j).media = s → (cpOf cs j).chan < tracks2) ∧ Hid (Below w3.heap.size w3 wr)) (fun i _ => n - (intOf i).toNat)
  case atStart => exact ⟨0, Nat.zero_le _, rfl, fun j hj => by omega, HW3.out⟩
  case round =>
    obtain ⟨k, hk, rfl, HO, HB⟩ := hrel
    have hszk := HB.out.size
    have HX3r := Lib.hid ((HB.out.block g (blk_lt HX33.out)).trans HX33.out)
    have HX5r := Lib.hid ((HB.out.block g5 (blk_lt HX53.out)).trans HX53.out)
    have HX6r := Lib.hid ((HB.out.block g6 (blk_lt HX63.out)).trans HX63.out)
    by_cases hlt : k < n
    · have hk0 : (0 : Int) ≤ (k : Int) := by omega
      have hkn : (k : Int) < (n : Int) := by omega
      obtain ⟨b, o, A', n', c', e, hb, hk7, hn', hc', hp⟩ := (HC3.out.below HB.out hB3).2 k hlt
      subst e
      obtain ⟨k0, k1, k2, k3, k4, k5, k6⟩ := hk7
      have HON := Lib.hid (fun (h : (cpOf cs k).media = s → (cpOf cs k).chan < tracks2) => fun j (hj : j < k + 1) => if e : j = k then by rw [e]; exact h else HO.out j (by omega))
      obtain ⟨c, hc⟩ : ∃ c, cpOf cs k = c := ⟨_, rfl⟩
      rw [hc] at k0 k1 k2 k3 k4 k5 hp HON
      clear hc hp
      go_upto_region 14 with (fail)
      obtain ⟨X, gc, hX, hgc, HX, HBX, HSX⟩ := cell_new wr 58 #[.string c.media, .int .i64 c.chan, .int .i64 c.from_, .int .i64 c.track, .int .i64 c.at_, .int .i64 c.len, .slice A' n' c']
      rw [← hX, ← hgc]
      clear hX hgc k0 k1 k2 k3 k4 k5 k6
      obtain ⟨x0, x1, _, _, _, _, _⟩ := seven_cells HX.out
      have HBKX := Lib.hid (HB.out.trans (HBX.out.mono hszk))
      obtain ⟨_, z1, _, _, _, _⟩ := three_cells (((HBX.out.block g5 (blk_lt HX5r.out)).trans HX5r.out))
      have HX6x := Lib.hid ((HBX.out.block g6 (blk_lt HX6r.out)).trans HX6r.out)
      by_cases hm : c.media = s
      case neg =>
        have hd := str_not hm
        go_wp2_with fail
        go_roundw
        case rel => exact ⟨k + 1, by omega, by go_num, HON.out (fun h => absurd h hm), HBKX⟩
        case measure => simp [intOf]; omega
      have hd := str_is hm
      by_cases hch : c.chan < tracks2
      · have hd2 : decide (c.chan ≥ tracks2) = false := decide_eq_false (by omega)
        go_wp2_with fail
        go_roundw
        case rel => exact ⟨k + 1, by omega, by go_num, HON.out (fun _ => hch), HBKX⟩
        case measure => simp [intOf]; omega
      · have hd2 : decide (c.chan ≥ tracks2) = true := decide_eq_true (by omega)
        obtain ⟨y0, y1, y2, f0, f1, f2⟩ := three_cells HX6x.out
        have HBE := Lib.hid (HB3.out.trans (HBKX.out.mono HB3.out.size))
        go_wp2_with fail
        refine bodyPost_ret (res_edit2 rfl rfl (box3_heap HX6x.out)) rfl ⟨box3_below HBE.out hgg, .inl ⟨_, (by decide), rfl⟩⟩
    · obtain rfl : k = n := by omega
      have HCH : Hid (∀ c ∈ cs, c.media = s → c.chan < tracks2) := fun c hc hm => by
        obtain ⟨j, hj, rfl⟩ := List.mem_iff_getElem.1 hc
        have h9 := HO.out j (by have := hl.out; omega)
        have e9 : cpOf cs j = cs[j] := by simp [cpOf, List.getD, hj]
        rw [e9] at h9
        exact h9 hm
      have HB4 := Lib.hid (HB3.out.trans (HB.out.mono HB3.out.size))
      clear HO hk HX33 HX53 HX63 HW3 HC3 hB3 HB hszk
      obtain ⟨w4, rfl⟩ : ∃ w4 : World, w4 = wr := ⟨_, rfl⟩
      clear HB3
      obtain ⟨x0, x1, x2, _, _, _⟩ := three_cells HX3r.out
      have HW4 : Hid (Below w4.heap.size w4 w4) := Below.refl _ _
      have hB4 : B ≤ w4.heap.size := Nat.le_trans hB HB4.out.size
      have HC4 : Hid (ClipsAt w4 B A k cs) := hh.out.below HB4.out hB
      have HD4 : Hid (ClipsAt w4 B A2 n2 ds) := hh2.out.below HB4.out hB
      have hg4 := blk_lt HX3r.out
      have hg54 := blk_lt HX5r.out
      have hg64 := blk_lt HX6r.out
      obtain ⟨n, rfl⟩ : ∃ n : Nat, n = k := ⟨_, rfl⟩
      go_wp2_with fail
      clear x0 x1 x2
      go_loopw [12, 13, 65] (fun v12 v13 i wr => ∃ (k : Nat) (L1 L2 : List CV), k ≤ n ∧ i = .int .i64 k ∧ L1.length ≤ k ∧ L2.length ≤ 300 ∧ Hid (L1.map Prod.fst = compO s (cs.take k)) ∧ Hid (L2.map Prod.fst = compM s ds (cs.take k)) ∧ Hid (CoSt w4.heap.size wr v12 v13 L1 L2) ∧ Hid (Below w4.heap.size w4 wr)) (fun _ _ i _ => n - (intOf i).toNat)
      case atStart => exact ⟨0, [], [], Nat.zero_le _, rfl, Nat.zero_le _, Nat.zero_le _, rfl, rfl, CoSt.nil _ _, HW4.out⟩
      case round =>
        obtain ⟨k, L1, L2, hk, rfl, hL1, hL2, HE1, HE2, HST, HB⟩ := hrel
        obtain ⟨A1, c1, rfl, _, _⟩ := HST.out.o1.form
        obtain ⟨A3, c3, rfl, _, _⟩ := HST.out.o2.form
        rw [cvLs_len, cvLs_len] at HST ⊢
        obtain ⟨q1, hq1⟩ : ∃ q1, L1.length = q1 := ⟨_, rfl⟩
        obtain ⟨q3, hq3⟩ : ∃ q3, L2.length = q3 := ⟨_, rfl⟩
        have HQ1 := Lib.hid hq1
        have HQ3 := Lib.hid hq3
        rw [hq1, hq3] at HST ⊢
        rw [hq1] at hL1
        rw [hq3] at hL2
        clear hq1 hq3
        have hszk := HB.out.size
        have HX3k := Lib.hid ((HB.out.block g hg4).trans HX3r.out)
        have HX5k := Lib.hid ((HB.out.block g5 hg54).trans HX5r.out)
        have HX6k := Lib.hid ((HB.out.block g6 hg64).trans HX6r.out)
        by_cases hlt : k < n
        · have hk0 : (0 : Int) ≤ (k : Int) := by omega
          have hkn : (k : Int) < (n : Int) := by omega
          obtain ⟨b, o, A', n', c', e, hb, hk7, hn', hc', hp⟩ := HC4.out.2 k hlt
          subst e
          obtain ⟨k0, k1, k2, k3, k4, k5, k6⟩ := hk7.below HB.out (by omega)
          have hkl : k < cs.length := by rw [hl.out]; exact hlt
          have HEO := Lib.hid (HE1.out ▸ compO_take (s := s) hkl)
          have HEM := Lib.hid (HE2.out ▸ compM_take (s := s) (ds := ds) hkl)
          have hcm := cp_mem hkl
          have HRG := Lib.hid (HOK.out.rng _ hcm)
          have HENV := Lib.hid (HOK.out.env _ hcm)
          have HFT := Lib.hid (hz.out _ hcm)
          obtain ⟨c, hc⟩ : ∃ c, cpOf cs k = c := ⟨_, rfl⟩
          rw [hc] at k0 k1 k2 k3 k4 k5 hp HEO HEM HRG HENV HFT
          have HP := Lib.hid hp
          clear hc hp hcm
          go_upto_region 21 with (fail)
          obtain ⟨X, gc, hX, hgc, HX, HBX, HSX⟩ := cell_new wr 58 #[.string c.media, .int .i64 c.chan, .int .i64 c.from_, .int .i64 c.track, .int .i64 c.at_, .int .i64 c.len, .slice A' n' c']
          rw [← hX, ← hgc]
          have HGC := Lib.hid hgc
          clear hX hgc k0 k1 k2 k3 k4 k5 k6
          obtain ⟨x0, x1, x2, x3, x4, x5, x6⟩ := seven_cells HX.out
          have HBKX := Lib.hid (HB.out.trans (HBX.out.mono hszk))
          have HSTX := Lib.hid (HST.out.below HBX.out)
          have HPX : Hid (PtsAt X B A' n' c.env) := HP.out.below HBKX.out (by omega)
          have hszX := HBX.out.size
          have hn50 : n' ≤ 50 := by have h1 := HP.out.1; have h2 := HENV.out.few; omega
          by_cases hm : c.media = s
          case neg =>
            have hd := str_not hm
            rw [if_neg hm] at HEO HEM
            go_wp2_with fail
            have HEW := EOWN_any c A' n' c' (by omega) X B (by omega) HPX
            unfold cpV at HEW
            refine HEW.mono ?_
            clear HEW
            rintro e w5 ⟨A9, c9, rfl, hown, hb5⟩
            have HR5 : Hid (RecAt w5 (c, A9, n', c9)) := OwnK.to_base (base := X.heap.size) hown (Nat.zero_le _)
            have HST5 := Lib.hid (HSTX.out.below hb5)
            have HB5 := Lib.hid (HBKX.out.trans (hb5.mono (by omega)))
            have hsz5 := hb5.size
            clear hown hb5 x0 x1 x2 x3 x4 x5 x6
            go_wp2_with (with_reducible refine wpList_push_cv rfl (.tmp 73) (.tmp 76) rfl w4.heap.size A1 q1 c1 (.slice A3 q3 c3) L1 L2 (c, A9, n', c9) w5.heap.size rfl rfl rfl HST5.out HR5.out (by omega) (by omega) ?_; intro g9 cap9 w6 hst6 hb6 _ _)
            have HST6 := Lib.hid hst6
            have HB6 := Lib.hid (HB5.out.trans hb6)
            clear hst6 hb6
            go_roundw
            case rel => exact ⟨k + 1, L1 ++ [(c, A9, n', c9)], L2, by omega, by go_num, by rw [List.length_append, HQ1.out]; simp; omega, by rw [HQ3.out]; omega, by rw [List.map_append, HEO.out]; rfl, by rw [HEM.out, List.append_nil]; rfl, HST6.out, HB6.out⟩
            case measure => simp [intOf]; omega
          have hd := str_is hm
          rw [if_pos hm] at HEO HEM
          have HM := Lib.hid hm
          clear hm
          obtain ⟨z0, z1, z2, _, _, _⟩ := three_cells (((HBX.out.block g5 (blk_lt HX5k.out)).trans HX5k.out))
          have HXc := HX
          have hgcX := blk_lt HX.out
          have hszk3 : wr.heap.size ≤ gc := by have := HGC.out; omega
          have hne0 : Value.ownBlock (.slice A3 q3 c3) ≠ some gc := fun e => by have := (own_lt HST.out.o2.2 e).2; omega
          go_wp2_with fail
          clear x0 x1 x2 x3 x4 x5 x6 z0 z1 z2
          obtain ⟨wk, rfl⟩ : ∃ wk : World, wk = wr := ⟨_, rfl⟩
          go_loopw [13, 81] (fun v13 i wq => ∃ (j : Nat) (L3 : List CV), j ≤ n2 ∧ i = .int .i64 j ∧ L3.length ≤ 300 ∧ Hid (L3.map Prod.fst = compM s ds (cs.take k) ++ prodL c (ds.take j)) ∧ Hid (CoSt w4.heap.size wq (.slice A1 q1 c1) v13 L1 L3) ∧ Hid (Below w4.heap.size w4 wq) ∧ Hid (wq.heap[gc]? = some (.cells #[.string c.media, .int .i64 c.chan, .int .i64 c.from_, .int .i64 c.track, .int .i64 c.at_, .int .i64 c.len, .slice A' n' c'] 58 (0, 0))) ∧ Hid (v13.ownBlock ≠ some gc)) (fun _ i _ => n2 - (intOf i).toNat)
          case atStart => exact ⟨0, L2, Nat.zero_le _, rfl, by rw [HQ3.out]; exact hL2, by show _ = _; rw [HE2.out]; simp [prodL], HSTX.out, HBKX.out, HX.out, hne0⟩
          case round =>
            obtain ⟨wq, rfl⟩ : ∃ wq : World, wq = wr := ⟨_, rfl⟩
            obtain ⟨j, L3, hj, rfl, hL3, HE3, HST3, HBq, HXq, HNq⟩ := hrel
            clear HST HQ3 HSTX HBKX HPX
            obtain ⟨A4, c4, rfl, _, _⟩ := HST3.out.o2.form
            rw [cvLs_len] at HST3 HNq ⊢
            obtain ⟨q4, hq4⟩ : ∃ q4, L3.length = q4 := ⟨_, rfl⟩
            have HQ4 := Lib.hid hq4
            rw [hq4] at HST3 HNq hL3 ⊢
            clear hq4
            have hszq := HBq.out.size
            have hgcq := blk_lt HXq.out
            by_cases hltj : j < n2
            · have HLT := Lib.hid hltj
              have hj0 : (0 : Int) ≤ (j : Int) := by omega
              have hjn : (j : Int) < (n2 : Int) := by omega
              obtain ⟨b2, o2, A7, n7, c7, e2, hb2, hk7, hn7, hc7, hp2⟩ := (HD4.out.below HBq.out hB4).2 j hltj
              subst e2
              obtain ⟨k0, k1, k2, k3, k4, k5, k6⟩ := hk7
              have hjl : j < ds.length := by rw [hl2.out]; exact hltj
              have HPL := Lib.hid (prodL_take (c := c) hjl)
              have hcm2 := cp_mem hjl
              have HRG2 := Lib.hid (HOK2.out.rng _ hcm2)
              have HENV2 := Lib.hid (HOK2.out.env _ hcm2)
              have HFT2 := Lib.hid (hz2.out _ hcm2)
              obtain ⟨d, hd9⟩ : ∃ d, cpOf ds j = d := ⟨_, rfl⟩
              rw [hd9] at k0 k1 k2 k3 k4 k5 hp2 HPL HRG2 HENV2 HFT2
              have HP2 := Lib.hid hp2
              clear hd9 hp2 hcm2
              go_upto_region 26 with (fail)
              obtain ⟨Y, gd, hY, hgd, HY, HBY, HSY⟩ := cell_new wq 58 #[.string d.media, .int .i64 d.chan, .int .i64 d.from_, .int .i64 d.track, .int .i64 d.at_, .int .i64 d.len, .slice A7 n7 c7]
              rw [← hY, ← hgd]
              clear hY hgd k0 k1 k2 k3 k4 k5 k6
              obtain ⟨y0, y1, y2, y3, y4, y5, y6⟩ := seven_cells HY.out
              have HXY := Lib.hid ((HBY.out.block gc hgcq).trans HXq.out)
              obtain ⟨x0, x1, x2, x3, x4, x5, x6⟩ := seven_cells HXY.out
              have HBqY := Lib.hid (HBq.out.trans (HBY.out.mono hszq))
              have HSTY := Lib.hid (HST3.out.below HBY.out)
              have hszY := HBY.out.size
              have HPcY : Hid (PtsAt Y B A' n' c.env) := HP.out.below HBqY.out (by omega)
              have HPdY : Hid (PtsAt Y B A7 n7 d.env) := HP2.out.below HBY.out (by omega)
              by_cases hpo : prodOk c d
              case neg =>
                rw [if_neg hpo, List.append_nil] at HPL
                go_wp2_with fail
                have HPR := PRODUCT_no c d A' A7 n' c' n7 c7 (rangeC16 HRG.out HOK.out.t2) (rangeC16 HRG2.out HOK2.out.t2) hpo Y
                unfold cpV clip0 at HPR
                refine HPR.mono ?_
                clear HPR
                rintro e w5 ⟨rfl, hb5⟩
                have HST5 := Lib.hid (HSTY.out.below hb5)
                have HB5 := Lib.hid (HBqY.out.trans (hb5.mono (by omega)))
                have HX5 := Lib.hid ((hb5.block gc (by omega)).trans HXY.out)
                have hsz5 := hb5.size
                clear hb5 x0 x1 x2 x3 x4 x5 x6 y0 y1 y2 y3 y4 y5 y6
                go_upto_region 27 with (fail)
                obtain ⟨Z, gz, hZ, hgz, HZ, HBZ, HSZ⟩ := cell_new w5 58 #[.string ⟨#[]⟩, .int .i64 0, .int .i64 0, .int .i64 0, .int .i64 0, .int .i64 0, .slice none 0 0]
                rw [← hZ, ← hgz]
                clear hZ hgz
                go_wp2_with fail
                go_roundw
                case rel => exact ⟨j + 1, L3, by have := HLT.out; omega, by go_num, by rw [HQ4.out]; exact hL3, by rw [HPL.out]; exact HE3.out, HST5.out.below HBZ.out, HB5.out.trans (HBZ.out.mono (by omega)), (HBZ.out.block gc (by omega)).trans HX5.out, HNq.out⟩
                case measure => have := HLT.out; simp [intOf]; omega
              rw [if_pos hpo] at HPL
              go_wp2_with fail
              have HPR := PRODUCT_yes c d A' A7 n' c' n7 c7 (rangeC16 HRG.out HOK.out.t2) (rangeC16 HRG2.out HOK2.out.t2) HENV HENV2 hpo Y B (by omega) HPcY HPdY
              unfold cpV at HPR
              refine HPR.mono ?_
              clear HPR
              rintro e w5 ⟨v9, rfl, hown, hb5⟩
              have HFX := Lib.hid (prod_fits (c := c) (d := d) HENV.out HENV2.out (by have := HRG.out; unfold rangeC at this; omega) (by have := HRG2.out; unfold rangeC at this; omega) HFT2.out.1)
              obtain ⟨x, hx⟩ : ∃ x, prodC c d = x := ⟨_, rfl⟩
              rw [hx] at hown HPL HFX ⊢
              clear hx
              obtain ⟨A9, c9, rfl, _, _⟩ := hown.form
              obtain ⟨n9, hn9⟩ : ∃ n9, (x.env.map ptL).length = n9 := ⟨_, rfl⟩
              rw [hn9] at hown ⊢
              have HP9 := Lib.hid (OwnK.pts hown)
              have HR5 : Hid (RecAt w5 (x, A9, n9, c9)) := OwnK.to_base (base := Y.heap.size) hown (Nat.zero_le _)
              have HST5 := Lib.hid (HSTY.out.below hb5)
              have HB5 := Lib.hid (HBqY.out.trans (hb5.mono (by omega)))
              have HX5 := Lib.hid ((hb5.block gc (by omega)).trans HXY.out)
              have hsz5 := hb5.size
              clear hb5 hown hn9 x0 x1 x2 x3 x4 x5 x6 y0 y1 y2 y3 y4 y5 y6
              go_upto_region 27 with (fail)
              obtain ⟨Z, gz, hZ, hgz, HZ, HBZ, HSZ⟩ := cell_new w5 58 #[.string x.media, .int .i64 x.chan, .int .i64 x.from_, .int .i64 x.track, .int .i64 x.at_, .int .i64 x.len, .slice A9 n9 c9]
              rw [← hZ, ← hgz]
              clear hZ hgz
              have HRZ := Lib.hid (HR5.out.below HBZ.out)
              have HPZ : Hid (PtsAt Z w5.heap.size A9 n9 x.env) := HP9.out.1.below HBZ.out (Nat.le_refl _)
              have HSTZ := Lib.hid (HST5.out.below HBZ.out)
              have HBZ4 := Lib.hid (HB5.out.trans (HBZ.out.mono (by omega)))
              have HXZ := Lib.hid ((HBZ.out.block gc (by omega)).trans HX5.out)
              have hszZ := HBZ.out.size
              have hgzZ := blk_lt HZ.out
              obtain ⟨x0, x1, x2, x3, x4, x5, x6⟩ := seven_cells HZ.out
              go_wp2_with fail
              have HPR := CHECKENV_any x A9 n9 c9 (Lib.hid HFX.out.2) Z w5.heap.size (by omega) HPZ
              unfold cpV at HPR
              refine HPR.mono ?_
              clear HPR
              rintro e w6 ⟨rfl, hb6⟩
              have HST6 := Lib.hid (HSTZ.out.below hb6)
              have HR6 := Lib.hid (HRZ.out.below hb6)
              have HB6 := Lib.hid (HBZ4.out.trans (hb6.mono (by omega)))
              have HX6 := Lib.hid ((hb6.block gc (by omega)).trans HXZ.out)
              have HZ6 := Lib.hid ((hb6.block gz hgzZ).trans HZ.out)
              have HXe := Lib.hid ((HB6.out.block g6 hg64).trans HX6r.out)
              have HBE := Lib.hid (HB4.out.trans (HB6.out.mono HB4.out.size))
              have hsz6 := hb6.size
              obtain ⟨f, hf⟩ : ∃ f, envF x.len x.env = f := ⟨_, rfl⟩
              rw [hf]
              clear hb6 hf x0 x1 x2 x3 x4 x5 x6
              by_cases h1 : f = 0
              case neg =>
                have hd : (f != 0) = true := by simpa using h1
                clear h1
                obtain ⟨y0, y1, y2, k0, k1, k2⟩ := three_cells HXe.out
                go_wp2_with fail
                refine bodyPost_ret (res_edit2 rfl rfl (box3_heap HXe.out)) rfl ⟨box3_below HBE.out hgg, .inl ⟨_, (by decide), rfl⟩⟩
              subst h1
              by_cases h3 : q4 = 300
              case pos =>
                have hd : ((q4 : Int) == 300) = true := by rw [h3]; rfl
                clear h3
                obtain ⟨y0, y1, y2, k0, k1, k2⟩ := three_cells HXe.out
                go_wp2_with fail
                refine bodyPost_ret (res_edit2 rfl rfl (box3_heap HXe.out)) rfl ⟨box3_below HBE.out hgg, .inl ⟨_, (by decide), rfl⟩⟩
              have hd : ((q4 : Int) == 300) = false := by
                rw [beq_eq_false_iff_ne]
                omega
              obtain ⟨x0, x1, x2, x3, x4, x5, x6⟩ := seven_cells HZ6.out
              have HL4 : Hid (q4 < 300) := by show _ < _; omega
              clear h3
              go_wp2_with (with_reducible refine wpList_push_cv rfl (.tmp 102) (.tmp 104) rfl w4.heap.size A4 q4 c4 (.slice A1 q1 c1) L3 L1 (x, A9, n9, c9) w6.heap.size rfl rfl rfl HST6.out.swap HR6.out (by omega) (by omega) ?_; intro g9 cap9 w7 hst7 hb7 hk7 hg7)
              have HST7 := Lib.hid hst7.swap
              have HB7 := Lib.hid (HB6.out.trans hb7)
              have HX7 := Lib.hid ((hk7 gc (by omega) HNq.out).trans HX6.out)
              have HN7 : Hid (Value.ownBlock (.slice (some ⟨g9, 0, none⟩) (q4 + 1) cap9) ≠ some gc) := fun e => by
                have e9 : g9 = gc := by injection e
                rcases hg7 with h | h
                · exact HNq.out (h.trans (by rw [e9]))
                · omega
              clear hst7 hb7 hk7 hg7 x0 x1 x2 x3 x4 x5 x6
              go_roundw
              case rel => exact ⟨j + 1, L3 ++ [(x, A9, n9, c9)], by have := HLT.out; omega, by go_num, by rw [List.length_append, HQ4.out]; have := HL4.out; simp; omega, by rw [List.map_append, HE3.out, HPL.out, List.append_assoc]; rfl, HST7.out, HB7.out, HX7.out, HN7.out⟩
              case measure => have := HLT.out; simp [intOf]; omega
            · obtain rfl : j = n2 := by omega
              have HTK : Hid (prodL c (ds.take j) = prodL c ds) := by show _ = _; rw [← hl2.out, List.take_length]
              rw [HTK.out] at HE3
              go_wp2_with fail
              go_roundw
              case rel => exact ⟨k + 1, L1, L3, by omega, by go_num, by rw [HQ1.out]; omega, by rw [HQ4.out]; exact hL3, by rw [HEO.out, List.append_nil]; rfl, by rw [HE3.out, HEM.out, HE2.out]; rfl, HST3.out, HBq.out⟩
              case measure => simp [intOf]; omega
        · obtain rfl : k = n := by omega
          have HTK : Hid (cs.take k = cs) := by show _ = _; rw [← hl.out, List.take_length]
          rw [HTK.out] at HE1 HE2
          obtain ⟨x0, x1, x2, f0, f1, f2⟩ := three_cells HX3k.out
          go_wp2_with (with_reducible refine wpList_app_cv rfl (.tmp 108) (.tmp 109) rfl w4.heap.size A1 A3 q1 q3 c1 c3 L1 L2 rfl rfl HST.out (by omega) (by omega) ?_; intro A5 c5 w5 ho5 hr5 hb5)
          have HO5 := Lib.hid ho5
          have HR5 := Lib.hid hr5
          have HB5 := Lib.hid (HB.out.trans hb5)
          clear ho5 hr5 hb5
          refine (ORDERED_cv w4.heap.size (q1 + q3) c5 A5 (by omega) (L1 ++ L2) w5 HB5.out.size HO5 HR5).mono ?_
          rintro e w6 ⟨rfl, L6, hp6, ho6, hr6, hb6⟩
          have HP6 : Hid ((L6.map Prod.fst).Perm (compO s cs ++ compM s ds cs)) := by
            show List.Perm _ _
            rw [← HE1.out, ← HE2.out, ← List.map_append]
            exact hp6.map _
          have HB6 := Lib.hid (HB5.out.trans hb6)
          have HC6 := Lib.hid (And.intro ho6 hr6)
          obtain ⟨m5, hm5⟩ : ∃ m5, q1 + q3 = m5 := ⟨_, rfl⟩
          rw [hm5] at HC6 ⊢
          clear hp6 ho6 hr6 hb6 hm5 x0 x1 x2 f0 f1 f2
          have HX36 := Lib.hid ((HB6.out.block g hg4).trans HX3r.out)
          have HX66 := Lib.hid ((HB6.out.block g6 hg64).trans HX6r.out)
          have HBW6 := Lib.hid (HB4.out.trans (HB6.out.mono HB4.out.size))
          obtain ⟨x0, x1, x2, f0, f1, f2⟩ := three_cells HX36.out
          have HG6 : Hid (g ≠ g6 ∧ w.heap.size ≤ g) := by have := HN.out; show _ ∧ _; omega
          go_upto_region 34 with (fail)
          obtain ⟨w7, hw7⟩ : ∃ w7, w7 = w6.setCell ⟨g, 2, none⟩ (.slice A5 m5 c5) := ⟨_, rfl⟩
          rw [← hw7]
          have hoff : ∀ k, k ≠ g → w7.heap[k]? = w6.heap[k]? := fun k hk => by rw [hw7, Below.heap_setCell _ _ _ _ (by simpa using hk)]
          have HC7 := Lib.hid (cv_off (w' := w7) HC6.out HX36.out (fun k _ hk => hoff k hk))
          have HX67 := Lib.hid ((hoff g6 (Ne.symm HG6.out.1)).trans HX66.out)
          have HBW7 : Hid (Below w.heap.size w w7) := by rw [hw7]; exact HBW6.out.setCell (p := ⟨g, 2, none⟩) HG6.out.2 _
          have HX37 : Hid (w7.heap[g]? = some (.cells #[.int .i64 rate, .int .i64 tracks, .slice A5 m5 c5] 24 (0, 0))) := by
            show _ = _
            rw [hw7]
            simp only [World.setCell, Array.getElem?_modify, HX36.out]
            simp
          clear hw7 hoff x0 x1 x2 f0 f1 f2
          obtain ⟨x0, x1, x2, f0, f1, f2⟩ := three_cells HX37.out
          go_wp2_with fail
          refine (ECHECKED_any rate tracks A5 m5 c5 (L6.map Prod.fst) (Lib.hid (fun c hc => ?_)) w7 w7.heap.size (Nat.le_refl _) (Lib.hid (CoSt.clips HC7.out.1 HC7.out.2))).mono ?_
          · rcases List.mem_append.1 (HP6.out.mem_iff.1 hc) with h | h
            · exact hz.out _ (compO_sub h)
            · obtain ⟨c1, h1, d1, h2, _, _, rfl⟩ := compM_sub h
              have r1 := HOK.out.rng _ h1
              have r2 := HOK2.out.rng _ h2
              unfold rangeC at r1 r2
              exact prod_fits (HOK.out.env _ h1) (HOK2.out.env _ h2) (by omega) (by omega) (hz2.out _ h2).1
          rintro e w8 ⟨hb8, he8⟩
          have HX68 := Lib.hid ((hb8.block g6 (blk_lt HX67.out)).trans HX67.out)
          have HC8 := Lib.hid (And.intro (HC7.out.1.below hb8) (HC7.out.2.below hb8))
          have HB8 := Lib.hid (HBW7.out.trans (hb8.mono HBW7.out.size))
          clear hb8 x0 x1 x2 f0 f1 f2
          obtain ⟨y0, y1, y2, k0, k1, k2⟩ := three_cells HX68.out
          unfold edit0 at he8
          rcases he8 with ⟨hf9, rfl⟩ | ⟨hf9, rfl⟩
          · go_wp2_with fail
            refine bodyPost_ret (res_edit2 rfl rfl (box3_heap HX68.out)) rfl ⟨box3_below HB8.out hgg, .inl ⟨_, hf9, rfl⟩⟩
          · go_wp2_with fail
            have HCF := cv_off (w' := ((w8.setCell ⟨g6, 0, none⟩ (.int .i64 rate)).setCell ⟨g6, 1, none⟩ (.int .i64 tracks)).setCell ⟨g6, 2, none⟩ (.slice A5 m5 c5)) HC8.out HX68.out (fun k _ hk => by
              rw [Below.heap_setCell _ _ _ _ (by simpa using hk), Below.heap_setCell _ _ _ _ (by simpa using hk), Below.heap_setCell _ _ _ _ (by simpa using hk)])
            refine bodyPost_ret (res_edit2 rfl rfl (box3_heap HX68.out)) rfl ⟨box3_below HB8.out hgg, .inr ⟨A5, m5, c5, L6.map Prod.fst, rfl, CoSt.clips HCF.1 HCF.2, HP6.out, hf9, HF.out, HF2.out, HR.out, HNM.out, HCH.out⟩⟩
end Go.Proofs.YtkmcohnhanphdaaGreatDoor
/- The plain law of Composed, part 1: a plain envelope keeps every bend among its breaks. -/
namespace Go.Proofs.YtkmcohnhanphdaaGreatDoor
open Go.RowKit Go.Dw
theorem fillP_keep : ∀ (m : Nat) (i : Int) (out : List Int) (x : Int), x ∈ out → x ∈ fillP m i out
  | 0, _, _, _, h => h
  | m + 1, i, out, x, h => by
    rw [fillP]
    split
    · exact fillP_keep m (i + 1) _ x (List.mem_append_left _ h)
    · exact h
theorem oneP_keep {g : Int → Rat} {out : List Int} {a x : Int} (h : x ∈ out) : x ∈ oneP g out a := by
  unfold oneP
  split
  · exact List.mem_append_left _ h
  · exact h
theorem twoP_keep {g : Int → Rat} {out : List Int} {a b x : Int} (h : x ∈ out) : x ∈ twoP g out a b := by
  unfold twoP
  split
  · exact fillP_keep _ _ _ _ h
  · exact h
theorem pairsK_keep {g : Int → Rat} {l o0 : List Int} {x : Int} {k : Nat} : ∀ m, k ≤ m → x ∈ pairsK g l o0 k → x ∈ pairsK g l o0 m
  | 0, hk, h => by
    obtain rfl : k = 0 := by omega
    exact h
  | m + 1, hk, h => by
    by_cases e : k = m + 1
    · rw [← e]; exact h
    · rw [pairsK]
      exact twoP_keep (oneP_keep (pairsK_keep m (by omega) h))
theorem pairsK_bent {g : Int → Rat} {l o0 : List Int} {k : Nat} (h0 : 0 < elOf l k) (hb : bentG g (elOf l k) = true) : ∀ m, k < m → elOf l k ∈ pairsK g l o0 m := fun m hm =>
  pairsK_keep (k := k + 1) m hm (by
    rw [pairsK]
    refine twoP_keep ?_
    unfold oneP
    rw [if_pos (by rw [hb, decide_eq_true h0]; rfl)]
    exact List.mem_append_right _ (List.mem_singleton.2 rfl))
theorem lastP_keep {g : Int → Rat} {n : Int} {out : List Int} {x : Int} (h : x ∈ out) : x ∈ lastP g n out := by
  unfold lastP
  split
  · exact h
  · exact List.mem_append_left _ h
theorem someP_keep {out : List Int} {x : Int} (h : x ∈ out) : x ∈ someP out := by
  unfold someP
  split
  · rename_i h0; rw [h0] at h; cases h
  · exact h
theorem plainP_first {g : Int → Rat} {bs : List Int} {n : Int} (hn : 2 ≤ n) (h : g 0 ≠ g 1) : 0 ∈ plainP g bs n := by
  unfold plainP
  rw [if_neg (by omega)]
  refine someP_keep (lastP_keep (pairsK_keep (k := 0) _ (Nat.zero_le _) ?_))
  rw [pairsK, firstP, if_neg h]
  exact List.mem_singleton.2 rfl
theorem plainP_last {g : Int → Rat} {bs : List Int} {n : Int} (hn : 2 ≤ n) (h : g (n - 1) ≠ g (n - 2)) : n - 1 ∈ plainP g bs n := by
  unfold plainP
  rw [if_neg (by omega)]
  refine someP_keep ?_
  unfold lastP
  rw [if_neg h]
  exact List.mem_append_right _ (List.mem_singleton.2 rfl)
theorem plainP_bent {g : Int → Rat} {bs : List Int} {n i : Int} (h0 : 0 < i) (h1 : i < n - 1) (hi : i ∈ bs) (hb : g (i + 1) - g i ≠ g i - g (i - 1)) : i ∈ plainP g bs n := by
  unfold plainP
  rw [if_neg (by omega)]
  refine someP_keep (lastP_keep ?_)
  have hm : i ∈ endsL (insL n bs) := (endsL_mem _ i).2 (by
    unfold insL
    exact List.mem_append_right _ (List.mem_filter.2 ⟨hi, by unfold inB; rw [decide_eq_true h0, decide_eq_true h1]; rfl⟩))
  have hl : n - 1 ∈ endsL (insL n bs) := (endsL_mem _ _).2 (by unfold insL; simp)
  have hlt := endsL_lt (insL n bs)
  generalize endsL (insL n bs) = L at hm hl hlt ⊢
  obtain ⟨k, hk, e⟩ := List.mem_iff_getElem.1 hm
  obtain ⟨q, hq, e2⟩ := List.mem_iff_getElem.1 hl
  have hkq : k < q := by
    rcases Nat.lt_trichotomy k q with h | h | h
    · exact h
    · subst h; omega
    · have := (List.pairwise_iff_getElem.1 hlt) q k hq hk h
      omega
  have e3 : elOf L k = i := by rw [← e]; simp [elOf, List.getD, hk]
  rw [← e3]
  exact pairsK_bent (by rw [e3]; exact h0) (by rw [e3]; unfold bentG; exact decide_eq_true (fun h => hb h.symm)) _ (by omega)
theorem env_early {l : List Pt} {t : Int} (hne : 0 < l.length) (hup : UpP l) (h : t ≤ (ptOf l 0).at_) : envV l t = ptV (ptOf l 0) := by
  have hk : envK l t = 0 := envK_at (by omega) (fun m hm => by omega) (fun m hm hml => by
    rcases Nat.eq_zero_or_pos m with e | e
    · rw [e]; exact h
    · have := hup 0 m e hml; omega)
  unfold envV
  rw [hk]
  split
  · rfl
  · rw [if_pos rfl]
theorem env_late {l : List Pt} {t : Int} (hne : 0 < l.length) (hup : UpP l) (h : (ptOf l (l.length - 1)).at_ ≤ t) : envV l t = ptV (ptOf l (l.length - 1)) := by
  by_cases e : (ptOf l (l.length - 1)).at_ = t
  · have hk : envK l t = l.length - 1 := envK_at (by omega) (fun m hm => by have := hup m (l.length - 1) hm (by omega); omega) (fun m hm hml => by
      obtain rfl : m = l.length - 1 := by omega
      omega)
    unfold envV
    rw [hk, if_pos ⟨by omega, e⟩]
  · have hk : envK l t = l.length := envK_at (by omega) (fun m hm => by
      rcases Nat.lt_or_ge m (l.length - 1) with h9 | h9
      · have := hup m (l.length - 1) h9 (by omega); omega
      · obtain rfl : m = l.length - 1 := by omega
        omega) (fun m hm hml => by omega)
    unfold envV
    rw [hk, if_neg (by rintro ⟨h9, _⟩; omega), if_neg (by omega), if_pos rfl]
theorem env_line2 {l : List Pt} (hup : UpP l) {j : Nat} (hj : j + 1 < l.length) {i : Int} (h1 : (ptOf l j).at_ ≤ i) (h2 : i ≤ (ptOf l (j + 1)).at_) :
    envV l i = ptV (ptOf l j) + (ptV (ptOf l (j + 1)) - ptV (ptOf l j)) * (((i - (ptOf l j).at_ : Int) : Rat) / (((ptOf l (j + 1)).at_ - (ptOf l j).at_ : Int) : Rat)) := by
  by_cases he : i = (ptOf l (j + 1)).at_
  · subst he
    have hlt := hup j (j + 1) (by omega) hj
    have hk : envK l (ptOf l (j + 1)).at_ = j + 1 := envK_at (by omega) (fun m hm => hup m (j + 1) hm hj) (fun m hm hml => by
      rcases Nat.lt_or_ge (j + 1) m with h | h
      · have := hup (j + 1) m h hml; omega
      · obtain rfl : m = j + 1 := by omega
        omega)
    have hne : (((ptOf l (j + 1)).at_ - (ptOf l j).at_ : Int) : Rat) ≠ 0 := fun h => by
      have := Rat.intCast_eq_zero_iff.1 h
      omega
    unfold envV
    rw [hk, if_pos ⟨hj, rfl⟩]
    generalize (((ptOf l (j + 1)).at_ - (ptOf l j).at_ : Int) : Rat) = d at *
    grind
  · exact env_line hup hj h1 (by omega)
theorem env_flat {l : List Pt} (hup : UpP l) (hne : 0 < l.length) {i : Int} (hno : ∀ p ∈ l, p.at_ ≠ i) : envV l (i + 1) - envV l i = envV l i - envV l (i - 1) := by
  obtain ⟨c1, c2⟩ := envK_cut hup i
  have hle := envK_le l i
  generalize envK l i = k at *
  by_cases e0 : k = 0
  · subst e0
    have h9 := c2 0 (Nat.le_refl _) hne
    have h8 := hno _ (pt_mem hne)
    rw [env_early hne hup (t := i + 1) (by omega), env_early hne hup (t := i) (by omega), env_early hne hup (t := i - 1) (by omega)]
  by_cases e1 : k = l.length
  · have h9 := c1 (l.length - 1) (by omega)
    rw [env_late hne hup (t := i + 1) (by omega), env_late hne hup (t := i) (by omega), env_late hne hup (t := i - 1) (by omega)]
  obtain ⟨j, rfl⟩ : ∃ j, k = j + 1 := ⟨k - 1, by omega⟩
  have h9 := c1 j (by omega)
  have h8 := c2 (j + 1) (Nat.le_refl _) (by omega)
  have h7 := hno _ (pt_mem (l := l) (k := j + 1) (by omega))
  rw [env_line2 hup (j := j) (by omega) (i := i + 1) (by omega) (by omega), env_line2 hup (j := j) (by omega) (i := i) (by omega) (by omega), env_line2 hup (j := j) (by omega) (i := i - 1) (by omega) (by omega)]
  rw [show i + 1 - (ptOf l j).at_ = (i - (ptOf l j).at_) + 1 by omega, show i - 1 - (ptOf l j).at_ = (i - (ptOf l j).at_) - 1 by omega]
  generalize i - (ptOf l j).at_ = t
  simp only [Rat.intCast_add, Rat.intCast_sub, Rat.div_def]
  generalize (((ptOf l (j + 1)).at_ : Int) : Rat) - (((ptOf l j).at_ : Int) : Rat) = d
  generalize ptV (ptOf l (j + 1)) - ptV (ptOf l j) = D
  rw [show ((1 : Int) : Rat) = 1 from rfl]
  generalize (t : Rat) = u
  generalize d⁻¹ = v
  grind
theorem env_one {l : List Pt} (h : l.length = 1) (t : Int) : envV l t = ptV (ptOf l 0) := by
  have hup : UpP l := fun a b h1 h2 => by omega
  by_cases e : t ≤ (ptOf l 0).at_
  · exact env_early (by omega) hup e
  · have := env_late (l := l) (t := t) (by omega) hup (by rw [h]; show (ptOf l 0).at_ ≤ t; omega)
    rw [h] at this
    exact this
theorem prod_env {c d : Cp} (hc : EnvOk c.len c.env) (hone : d.env.length = 1) (hx : EnvOk (prodC c d).len (prodC c d).env) {i : Int} (h0 : 0 ≤ i) (h1 : i < (prodC c d).len) : envV (prodC c d).env i = prodG c d i := by
  have hg : ∀ j, prodG c d j = envV c.env (j + (prodF c d - c.from_)) * ptV (ptOf d.env 0) := fun j => by
    unfold prodG
    rw [env_one hone]
  have hmem : ∀ j, j ∈ prodP c d → ∃ p ∈ (prodC c d).env, p.at_ = j := fun j hj => ⟨gPt (prodG c d) j, List.mem_map.2 ⟨j, hj, rfl⟩, rfl⟩
  refine env_back (n := prodT c d - prodF c d) hx.up hx.some_ (fun p hp => ?_) (fun j hj0 hj1 hb => hmem _ (plainP_bent hj0 hj1 ?_ hb)) (fun hn h => hmem _ (plainP_first hn h)) (fun hn h => hmem _ (plainP_last hn h)) h0 h1
  · refine ⟨(hx.in_ p hp).1, (hx.in_ p hp).2, ?_⟩
    obtain ⟨j, _, rfl⟩ := List.mem_map.1 hp
    exact valQ_tx _
  · refine Classical.byContradiction fun hno => hb ?_
    have h9 := env_flat hc.up hc.some_ (i := j + (prodF c d - c.from_)) (fun p hp e => hno (List.mem_append_right _ (List.mem_map.2 ⟨p, hp, by omega⟩)))
    rw [hg, hg, hg, show j + 1 + (prodF c d - c.from_) = j + (prodF c d - c.from_) + 1 by omega, show j - 1 + (prodF c d - c.from_) = j + (prodF c d - c.from_) - 1 by omega]
    generalize envV c.env (j + (prodF c d - c.from_) + 1) = a at *
    generalize envV c.env (j + (prodF c d - c.from_)) = b at *
    generalize envV c.env (j + (prodF c d - c.from_) - 1) = e at *
    grind
open Classical in
theorem con_prod {c d : Cp} {md : List Md} {t p : Int} (hc : EnvOk c.len c.env) (hone : d.env.length = 1) (hx : prodOk c d → EnvOk (prodC c d).len (prodC c d).env) :
    (if prodOk c d then conC md t p (prodC c d) else 0) = if c.track = t ∧ c.at_ ≤ p ∧ p < c.at_ + c.len then envV c.env (p - c.at_) * conC md c.chan (c.from_ + (p - c.at_)) d else 0 := by
  by_cases h1 : c.track = t ∧ c.at_ ≤ p ∧ p < c.at_ + c.len
  · rw [if_pos h1]
    by_cases h2 : prodOk c d
    · rw [if_pos h2]
      unfold conC
      by_cases h3 : prodF c d ≤ c.from_ + (p - c.at_) ∧ c.from_ + (p - c.at_) < prodT c d
      · have hF : d.at_ ≤ c.from_ + (p - c.at_) ∧ c.from_ + (p - c.at_) < d.at_ + d.len := by unfold prodF prodT at h3; omega
        have e1 : (prodC c d).from_ + (p - (prodC c d).at_) = d.from_ + (c.from_ + (p - c.at_) - d.at_) := by show d.from_ + prodF c d - d.at_ + (p - (c.at_ + prodF c d - c.from_)) = _; omega
        rw [e1]
        show (if c.track = t ∧ c.at_ + prodF c d - c.from_ ≤ p ∧ p < c.at_ + prodF c d - c.from_ + (prodT c d - prodF c d) ∧ d.from_ + (c.from_ + (p - c.at_) - d.at_) < ((trackOf md d.media d.chan).length : Int) then envV (prodC c d).env (p - (c.at_ + prodF c d - c.from_)) * ((elOf (trackOf md d.media d.chan) (d.from_ + (c.from_ + (p - c.at_) - d.at_)).toNat : Int) : Rat) else 0) = _
        by_cases h4 : d.from_ + (c.from_ + (p - c.at_) - d.at_) < ((trackOf md d.media d.chan).length : Int)
        · rw [if_pos ⟨h1.1, by omega, by omega, h4⟩, if_pos ⟨h2.1, hF.1, hF.2, h4⟩, prod_env hc hone (hx h2) (i := p - (c.at_ + prodF c d - c.from_)) (by omega) (by show _ < prodT c d - prodF c d; omega)]
          unfold prodG
          rw [show p - (c.at_ + prodF c d - c.from_) + (prodF c d - c.from_) = p - c.at_ by omega, show p - (c.at_ + prodF c d - c.from_) + (prodF c d - d.at_) = c.from_ + (p - c.at_) - d.at_ by omega, Rat.mul_assoc]
        · rw [if_neg (fun h => h4 h.2.2.2), if_neg (fun h => h4 h.2.2.2), Rat.mul_zero]
      · rw [if_neg (fun h => h3 (by
          have a1 : c.at_ + prodF c d - c.from_ ≤ p := h.2.1
          have a2 : p < c.at_ + prodF c d - c.from_ + (prodT c d - prodF c d) := h.2.2.1
          omega)), if_neg (fun h => h3 (by
          have a1 := h.2.1
          have a2 := h.2.2.1
          unfold prodF prodT
          omega)), Rat.mul_zero]
    · rw [if_neg h2]
      unfold conC
      rw [if_neg (fun h => h2 ⟨h.1, by
        have a1 := h.2.1
        have a2 := h.2.2.1
        unfold prodF prodT
        omega⟩), Rat.mul_zero]
  · rw [if_neg h1]
    by_cases h2 : prodOk c d
    · rw [if_pos h2]
      unfold conC
      refine if_neg (fun h => h1 ?_)
      have a0 : c.track = t := h.1
      have a1 : c.at_ + prodF c d - c.from_ ≤ p := h.2.1
      have a2 : p < c.at_ + prodF c d - c.from_ + (prodT c d - prodF c d) := h.2.2.1
      unfold prodF at a1 a2
      unfold prodT at a2
      refine ⟨a0, ?_, ?_⟩ <;> omega
    · rw [if_neg h2]
open Classical in
theorem mix_prodL {c : Cp} {md : List Md} {t p : Int} (hc : EnvOk c.len c.env) : ∀ {ds : List Cp}, (∀ d ∈ ds, d.env.length = 1) → (∀ d ∈ ds, prodOk c d → EnvOk (prodC c d).len (prodC c d).env) →
    mixC md t p (prodL c ds) = if c.track = t ∧ c.at_ ≤ p ∧ p < c.at_ + c.len then envV c.env (p - c.at_) * mixC md c.chan (c.from_ + (p - c.at_)) ds else 0
  | [], _, _ => by
    show (0 : Rat) = if _ then _ * (0 : Rat) else 0
    rw [Rat.mul_zero]
    split <;> rfl
  | d :: ds, h1, h2 => by
    have ih := mix_prodL (md := md) (t := t) (p := p) hc (ds := ds) (fun e he => h1 e (List.mem_cons_of_mem _ he)) (fun e he => h2 e (List.mem_cons_of_mem _ he))
    have h := con_prod (md := md) (t := t) (p := p) hc (h1 d (List.mem_cons_self ..)) (h2 d (List.mem_cons_self ..))
    have e : prodL c (d :: ds) = (if prodOk c d then [prodC c d] else []) ++ prodL c ds := rfl
    have e2 : mixC md t p (if prodOk c d then [prodC c d] else []) = if prodOk c d then conC md t p (prodC c d) else 0 := by
      by_cases hp : prodOk c d
      · rw [if_pos hp, if_pos hp]; show _ + (0 : Rat) = _; rw [Rat.add_zero]
      · rw [if_neg hp, if_neg hp]; rfl
    rw [e, mixC_append, e2, h, ih]
    by_cases hr : c.track = t ∧ c.at_ ≤ p ∧ p < c.at_ + c.len
    · rw [if_pos hr, if_pos hr, if_pos hr, ← Rat.mul_add]; rfl
    · rw [if_neg hr, if_neg hr, if_neg hr, Rat.add_zero]
def WholeL (ds : List Cp) : Prop := ∀ d ∈ ds, d.env.length = 1 ∧ ∃ z : Int, ptV (ptOf d.env 0) = (z : Rat)
theorem con_int {md : List Md} {t q : Int} {d : Cp} (h : d.env.length = 1 ∧ ∃ z : Int, ptV (ptOf d.env 0) = (z : Rat)) : ∃ x : Int, conC md t q d = (x : Rat) := by
  obtain ⟨h1, z, h2⟩ := h
  unfold conC
  split
  · rw [env_one h1, h2]
    exact ⟨_, (Rat.intCast_mul z _).symm⟩
  · exact ⟨0, rfl⟩
theorem mix_int {md : List Md} {t q : Int} : ∀ {ds : List Cp}, WholeL ds → ∃ x : Int, mixC md t q ds = (x : Rat)
  | [], _ => ⟨0, rfl⟩
  | d :: ds, h => by
    obtain ⟨x, hx⟩ := con_int (md := md) (t := t) (q := q) (h d (List.mem_cons_self ..))
    obtain ⟨y, hy⟩ := mix_int (md := md) (t := t) (q := q) (ds := ds) (fun e he => h e (List.mem_cons_of_mem _ he))
    refine ⟨x + y, ?_⟩
    show conC md t q d + mixC md t q ds = _
    rw [hx, hy, Rat.intCast_add]
theorem sum_nn : ∀ {l : List Int}, (∀ x ∈ l, 0 ≤ x) → 0 ≤ l.sum
  | [], _ => Int.le_refl _
  | x :: l, h => by
    have h1 := h x (List.mem_cons_self ..)
    have h2 := sum_nn (l := l) (fun y hy => h y (List.mem_cons_of_mem _ hy))
    rw [List.sum_cons]; omega
theorem sum_zero : ∀ {l : List Int}, (∀ x ∈ l, 0 ≤ x) → l.sum = 0 → ∀ x ∈ l, x = 0
  | [], _, _, x, hx => by cases hx
  | y :: l, h, h0, x, hx => by
    have h1 := h y (List.mem_cons_self ..)
    have h2 := sum_nn (l := l) (fun y hy => h y (List.mem_cons_of_mem _ hy))
    rw [List.sum_cons] at h0
    rcases List.mem_cons.1 hx with e | e
    · omega
    · exact sum_zero (l := l) (fun y hy => h y (List.mem_cons_of_mem _ hy)) (by omega) x e
theorem whole_val {md : List Md} {ds : List Cp} {tn : Nat} (hw : WholeL ds) (h0 : renN md ds tn = 0) {t q : Nat} (ht : t < tn) (hq : (q : Int) < endC ds) : ((clipV (nearQ (mixC md (t : Int) (q : Int) ds)) : Int) : Rat) = mixC md (t : Int) (q : Int) ds := by
  have hnn : ∀ t : Int, 0 ≤ renN1 md ds t := fun t => sum_nn (fun x hx => by
    obtain ⟨p, _, rfl⟩ := List.mem_map.1 hx
    exact (clipN_bd _).1)
  have h1 : renN1 md ds (t : Int) = 0 := sum_zero (l := (List.range tn).map fun t : Nat => renN1 md ds t) (fun x hx => by
    obtain ⟨s, _, rfl⟩ := List.mem_map.1 hx
    exact hnn _) h0 _ (List.mem_map.2 ⟨t, List.mem_range.2 ht, rfl⟩)
  have h2 : clipN (nearQ (mixC md (t : Int) (q : Int) ds)) = 0 := sum_zero (l := (List.range (endC ds).toNat).map fun p : Nat => clipN (nearQ (mixC md (t : Int) (p : Int) ds))) (fun x hx => by
    obtain ⟨s, _, rfl⟩ := List.mem_map.1 hx
    exact (clipN_bd _).1) h1 _ (List.mem_map.2 ⟨q, List.mem_range.2 (by omega), rfl⟩)
  obtain ⟨x, hx⟩ := mix_int (md := md) (t := (t : Int)) (q := (q : Int)) hw
  rw [hx, nearQ_int] at h2 ⊢
  have : clipV x = x := by
    unfold clipN at h2
    unfold clipV
    (repeat' split at h2) <;> (repeat' split) <;> omega
  rw [this]
theorem mix_beyond {md : List Md} {t q : Int} : ∀ {ds : List Cp}, (∀ d ∈ ds, d.at_ + d.len ≤ q) → mixC md t q ds = 0
  | [], _ => rfl
  | d :: ds, h => by
    show conC md t q d + mixC md t q ds = 0
    rw [mix_beyond (fun e he => h e (List.mem_cons_of_mem _ he)), Rat.add_zero]
    unfold conC
    have := h d (List.mem_cons_self ..)
    exact if_neg (fun h => by have := h.2.2.1; omega)
theorem track_old {md : List Md} {m : Md} {s : ByteArray} {ch : Int} (h : m.name ≠ s) : trackOf (md ++ [m]) s ch = trackOf md s ch := by
  unfold trackOf sndOf findM
  rw [List.find?_append]
  have : ([m].find? (fun m => decide (m.name = s))) = none := by simp [h]
  rw [this, Option.or_none]
theorem track_new {md : List Md} {m : Md} {ch : Int} (h : ∀ x ∈ md, x.name ≠ m.name) : trackOf (md ++ [m]) m.name ch = rowOf m.xss ch.toNat := by
  unfold trackOf sndOf findM
  rw [List.find?_append]
  have h1 : (md.find? (fun x => decide (x.name = m.name))) = none := List.find?_eq_none.2 (fun x hx => by simpa using h x hx)
  have h2 : ([m].find? (fun x => decide (x.name = m.name))) = some m := by simp
  rw [h1, h2]
  rfl
theorem endC_all {ds : List Cp} {d : Cp} (h : d ∈ ds) : d.at_ + d.len ≤ endC ds := by
  obtain ⟨k, hk, rfl⟩ := List.mem_iff_getElem.1 h
  have := endC_mem hk
  rwa [show cpOf ds k = ds[k] by simp [cpOf, List.getD, hk]] at this
theorem con_inner {md : List Md} {m : Md} {ds : List Cp} {tn : Nat} {c : Cp} {t p : Int} (hw : WholeL ds) (h0 : renN md ds tn = 0) (hxs : m.xss = renS md ds tn) (hmd : ∀ x ∈ md, x.name ≠ m.name) (hc : c.media = m.name) (hch : 0 ≤ c.chan ∧ c.chan < (tn : Int)) (hfr : 0 ≤ c.from_) :
    conC (md ++ [m]) t p c = if c.track = t ∧ c.at_ ≤ p ∧ p < c.at_ + c.len then envV c.env (p - c.at_) * mixC md c.chan (c.from_ + (p - c.at_)) ds else 0 := by
  obtain ⟨ch, hch9⟩ : ∃ ch : Nat, c.chan = (ch : Int) := ⟨c.chan.toNat, by omega⟩
  have ht : trackOf (md ++ [m]) c.media c.chan = renT md ds (ch : Int) := by
    rw [hc, track_new hmd, hxs, hch9, Int.toNat_natCast]
    unfold rowOf renS
    have hlt : ch < tn := by omega
    simp [List.getD, hlt]
  have hlen : ((renT md ds (ch : Int)).length : Int) = endC ds := by
    unfold renT
    rw [List.length_map, List.length_range]
    have := endC_nn ds
    omega
  unfold conC
  rw [ht, hlen, hch9]
  by_cases h1 : c.track = t ∧ c.at_ ≤ p ∧ p < c.at_ + c.len
  · rw [if_pos h1]
    by_cases h2 : c.from_ + (p - c.at_) < endC ds
    · rw [if_pos ⟨h1.1, h1.2.1, h1.2.2, h2⟩]
      obtain ⟨q, hq⟩ : ∃ q : Nat, c.from_ + (p - c.at_) = (q : Int) := ⟨(c.from_ + (p - c.at_)).toNat, by omega⟩
      rw [hq] at h2 ⊢
      rw [← whole_val hw h0 (t := ch) (q := q) (by omega) h2, Int.toNat_natCast]
      have e : elOf (renT md ds (ch : Int)) q = clipV (nearQ (mixC md (ch : Int) (q : Int) ds)) := by
        unfold renT elOf
        have hlt : q < (endC ds).toNat := by omega
        simp [List.getD, hlt]
      rw [e]
    · rw [if_neg (fun h => h2 h.2.2.2), mix_beyond (fun d hd => by have := endC_all hd; omega), Rat.mul_zero]
  · rw [if_neg h1, if_neg (fun h => h1 ⟨h.1, h.2.1, h.2.2.1⟩)]
theorem con_old {md : List Md} {m : Md} {c : Cp} {t p : Int} (h : ¬ c.media = m.name) : conC (md ++ [m]) t p c = conC md t p c := by
  unfold conC
  rw [track_old (fun e => h e.symm)]
theorem mix_split {md : List Md} {m : Md} {ds : List Cp} {tn : Nat} {t p : Int} (hw : WholeL ds) (h0 : renN md ds tn = 0) (hxs : m.xss = renS md ds tn) (hmd : ∀ x ∈ md, x.name ≠ m.name) : ∀ {cs : List Cp},
    (∀ c ∈ cs, EnvOk c.len c.env ∧ 0 ≤ c.from_ ∧ 0 ≤ c.chan ∧ (c.media = m.name → c.chan < (tn : Int))) → (∀ c ∈ cs, c.media = m.name → ∀ d ∈ ds, prodOk c d → EnvOk (prodC c d).len (prodC c d).env) →
    mixC md t p (compO m.name cs) + mixC md t p (compM m.name ds cs) = mixC (md ++ [m]) t p cs
  | [], _, _ => by show (0 : Rat) + 0 = 0; rw [Rat.add_zero]
  | c :: cs, h1, h2 => by
    have ih := mix_split (t := t) (p := p) hw h0 hxs hmd (cs := cs) (fun e he => h1 e (List.mem_cons_of_mem _ he)) (fun e he => h2 e (List.mem_cons_of_mem _ he))
    obtain ⟨a1, a2, a3, a4⟩ := h1 c (List.mem_cons_self ..)
    have eO : compO m.name (c :: cs) = (if c.media = m.name then [] else [c]) ++ compO m.name cs := rfl
    have eM : compM m.name ds (c :: cs) = (if c.media = m.name then prodL c ds else []) ++ compM m.name ds cs := rfl
    show _ = conC (md ++ [m]) t p c + mixC (md ++ [m]) t p cs
    rw [eO, eM, ← ih, mixC_append, mixC_append]
    by_cases hm : c.media = m.name
    · rw [if_pos hm, if_pos hm, con_inner hw h0 hxs hmd hm ⟨a3, a4 hm⟩ a2, mix_prodL a1 (fun d hd => (hw d hd).1) (h2 c (List.mem_cons_self ..) hm)]
      show 0 + _ + _ = _
      generalize mixC md t p (compO m.name cs) = x
      generalize mixC md t p (compM m.name ds cs) = y
      grind
    · rw [if_neg hm, if_neg hm, con_old hm]
      show conC md t p c + 0 + _ + (0 + _) = _
      generalize mixC md t p (compO m.name cs) = x
      generalize mixC md t p (compM m.name ds cs) = y
      grind
theorem mix_perm {md : List Md} {t p : Int} {a b : List Cp} (h : a.Perm b) : mixC md t p a = mixC md t p b := by
  induction h with
  | nil => rfl
  | cons x _ ih => show _ + _ = _ + _; rw [ih]
  | swap x y l => show _ + (_ + _) = _ + (_ + _); rw [← Rat.add_assoc, ← Rat.add_assoc, Rat.add_comm (conC md t p y)]
  | trans _ _ ih1 ih2 => rw [ih1, ih2]
theorem endC_le {cs : List Cp} {N : Int} (hN : 0 ≤ N) (h : ∀ c ∈ cs, c.at_ + c.len ≤ N) : endC cs ≤ N := by
  unfold endC
  have : ∀ (l : List Cp) (x : Int), x ≤ N → (∀ c ∈ l, c.at_ + c.len ≤ N) → l.foldl (fun n c => max n (c.at_ + c.len)) x ≤ N := by
    intro l
    induction l with
    | nil => intro x hx _; exact hx
    | cons c l ih =>
      intro x hx hl
      have := hl c (List.mem_cons_self ..)
      exact ih _ (by show max x (c.at_ + c.len) ≤ N; omega) (fun e he => hl e (List.mem_cons_of_mem _ he))
  exact this cs 0 hN h
theorem endC_whole {s : ByteArray} {cs ds ls : List Cp} (hp : ls.Perm (compO s cs ++ compM s ds cs)) : endC ls ≤ endC cs := by
  refine endC_le (endC_nn cs) (fun x hx => ?_)
  rcases List.mem_append.1 (hp.mem_iff.1 hx) with h | h
  · exact endC_all (compO_sub h)
  · obtain ⟨c, hc, d, _, _, hok, rfl⟩ := compM_sub h
    have h1 := endC_all hc
    have h2 : prodT c d ≤ c.from_ + c.len := by unfold prodT; omega
    show c.at_ + prodF c d - c.from_ + (prodT c d - prodF c d) ≤ _
    omega
theorem sum_all_zero : ∀ {l : List Int}, (∀ x ∈ l, x = 0) → l.sum = 0
  | [], _ => rfl
  | x :: l, h => by
    rw [List.sum_cons, h x (List.mem_cons_self ..), sum_all_zero (fun y hy => h y (List.mem_cons_of_mem _ hy))]; rfl
theorem mix_end {md : List Md} {t : Int} {ls : List Cp} {p : Nat} (h : endC ls ≤ (p : Int)) : mixC md t (p : Int) ls = 0 := mix_beyond (fun d hd => by have := endC_all hd; omega)
theorem renN1_whole {md md' : List Md} {ls cs : List Cp} {t : Int} (hmix : ∀ p : Int, mixC md t p ls = mixC md' t p cs) (hle : endC ls ≤ endC cs) : renN1 md ls t = renN1 md' cs t := by
  unfold renN1
  obtain ⟨b, hb⟩ : ∃ b, (endC cs).toNat = (endC ls).toNat + b := ⟨(endC cs).toNat - (endC ls).toNat, by omega⟩
  rw [hb, List.range_add, List.map_append, List.sum_append]
  have h2 : ((List.map (fun x => (endC ls).toNat + x) (List.range b)).map (fun p : Nat => clipN (nearQ (mixC md' t (p : Int) cs)))).sum = 0 := sum_all_zero (fun x hx => by
    obtain ⟨p, hp, rfl⟩ := List.mem_map.1 hx
    obtain ⟨q, _, rfl⟩ := List.mem_map.1 hp
    rw [← hmix, mix_end (by have := endC_nn ls; omega)]
    have : nearQ 0 = 0 := nearQ_int 0
    rw [this]; rfl)
  rw [h2, Int.add_zero]
  exact congrArg List.sum (List.map_congr_left (fun p _ => by rw [hmix]))
theorem renT_whole {md md' : List Md} {ls cs : List Cp} {t : Int} (hmix : ∀ p : Int, mixC md t p ls = mixC md' t p cs) (k : Nat) : (renT md ls t).getD k 0 = if k < (endC ls).toNat then clipV (nearQ (mixC md' t (k : Int) cs)) else 0 := by
  unfold renT
  by_cases h : k < (endC ls).toNat
  · rw [if_pos h]; simp [List.getD, h, hmix]
  · rw [if_neg h]; simp [List.getD, h]
theorem renT_same {md md' : List Md} {ls cs : List Cp} {t : Int} (hmix : ∀ p : Int, mixC md t p ls = mixC md' t p cs) (hle : endC ls ≤ endC cs) (k : Nat) : (renT md ls t).getD k 0 = (renT md' cs t).getD k 0 := by
  rw [renT_whole hmix, renT_whole (md := md') (ls := cs) (fun p => rfl)]
  by_cases h : k < (endC ls).toNat
  · rw [if_pos h, if_pos (by omega)]
  · rw [if_neg h]
    by_cases h2 : k < (endC cs).toNat
    · rw [if_pos h2, ← hmix, mix_end (by have := endC_nn ls; omega)]
      have : nearQ 0 = 0 := nearQ_int 0
      rw [this]; rfl
    · rw [if_neg h2]
end Go.Proofs.YtkmcohnhanphdaaGreatDoor
/- The plain law of Composed, part 2: the whole sounds as the edit with the rendered inner one. -/
namespace Go.Proofs.YtkmcohnhanphdaaGreatDoor
open Go.RowKit Go.Dw
def oneS : ByteArray := ⟨#[49]⟩
def IsWh (ds : List Cp) : Prop := ∀ d ∈ ds, d.env.length = 1 ∧ (ptOf d.env 0).den = oneS
theorem whole_pt {p : Pt} (h : Rt p.num p.den (ptV p)) (h1 : p.den = oneS) : ∃ z : Int, ptV p = (z : Rat) := by
  have h2 := h.den
  generalize ptV p = q at *
  rw [h1] at h2
  have h3 : Lib.decDigits q.den = [49] := by rw [← txD_data, ← h2]; rfl
  have h4 := decV_decDigits q.den
  rw [h3] at h4
  have h5 : q.den = 1 := by rw [← h4]; rfl
  exact ⟨q.num, Rat.ext (by rw [Rat.num_intCast]) (by rw [h5, Rat.den_intCast])⟩
theorem wholeL_of {rate tracks : Int} {ds : List Cp} (hE : EditOk rate tracks ds) (h : IsWh ds) : WholeL ds := fun d hd => by
  obtain ⟨h1, h2⟩ := h d hd
  exact ⟨h1, whole_pt ((hE.env d hd).right _ (pt_mem (by omega))) h2⟩
theorem renS_len (md : List Md) (cs : List Cp) (tn : Nat) : (renS md cs tn).length = tn := by unfold renS; rw [List.length_map, List.length_range]
theorem renS_row {md : List Md} {cs : List Cp} {tn t : Nat} (h : t < tn) : rowOf (renS md cs tn) t = renT md cs (t : Int) := by
  unfold rowOf renS; simp [List.getD, h]
theorem renS_out {md : List Md} {cs : List Cp} {tn t : Nat} (h : tn ≤ t) : rowOf (renS md cs tn) t = [] := by
  unfold rowOf renS
  simp [List.getD, h]
theorem comp_same {rate tracks rate2 tracks2 : Int} {md : List Md} {m : Md} {cs ds ls : List Cp} (hcs : EditOk rate tracks cs) (hds : EditOk rate2 tracks2 ds) (hls : EditOk rate tracks ls)
    (hp : ls.Perm (compO m.name cs ++ compM m.name ds cs)) (hw : IsWh ds) (h0 : renN md ds tracks2.toNat = 0) (hxs : m.xss = renS md ds tracks2.toNat) (hmd : ∀ x ∈ md, x.name ≠ m.name) (hch : ∀ c ∈ cs, c.media = m.name → c.chan < tracks2) (tn : Nat) :
    renN md ls tn = renN (md ++ [m]) cs tn ∧ ∀ t k, elOf (rowOf (renS md ls tn) t) k = elOf (rowOf (renS (md ++ [m]) cs tn) t) k := by
  have hwl := wholeL_of hds hw
  have hmix : ∀ t p : Int, mixC md t p ls = mixC (md ++ [m]) t p cs := fun t p => by
    rw [mix_perm hp, mixC_append]
    refine mix_split hwl h0 hxs hmd (fun c hc => ⟨hcs.env c hc, ?_, ?_, fun e => ?_⟩) (fun c hc hm d hd hok => hls.env _ (hp.mem_iff.2 (List.mem_append_right _ ?_)))
    · have := hcs.rng c hc; unfold rangeC at this; omega
    · have := hcs.rng c hc; unfold rangeC at this; omega
    · have h1 := hch c hc e
      have h2 := hds.t1
      omega
    · unfold compM
      refine List.mem_flatMap.2 ⟨c, hc, ?_⟩
      rw [if_pos hm]
      unfold prodL
      refine List.mem_flatMap.2 ⟨d, hd, ?_⟩
      rw [if_pos hok]
      exact List.mem_singleton.2 rfl
  have hle := endC_whole hp
  refine ⟨?_, fun t k => ?_⟩
  · unfold renN
    exact congrArg List.sum (List.map_congr_left (fun t _ => renN1_whole (fun p => hmix _ p) hle))
  · by_cases h : t < tn
    · rw [renS_row h, renS_row h]
      unfold elOf
      exact renT_same (fun p => hmix _ p) hle k
    · rw [renS_out (by omega), renS_out (by omega)]
theorem renN_nn (md : List Md) (cs : List Cp) (tn : Nat) : 0 ≤ renN md cs tn := sum_nn (fun x hx => by
  obtain ⟨t, _, rfl⟩ := List.mem_map.1 hx
  exact sum_nn (fun y hy => by
    obtain ⟨p, _, rfl⟩ := List.mem_map.1 hy
    exact (clipN_bd _).1))
end Go.Proofs.YtkmcohnhanphdaaGreatDoor
