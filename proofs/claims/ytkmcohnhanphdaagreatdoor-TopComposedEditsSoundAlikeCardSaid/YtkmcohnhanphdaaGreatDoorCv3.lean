/- Curves: the plain envelope (printed by tools/mkplain.py). -/
import Derived.Test.YtkmcohnhanphdaaGreatDoorUe
import Derived.Test.YtkmcohnhanphdaaGreatDoorVc
import Derived.Test.YtkmcohnhanphdaaGreatDoorVf
import Derived.Deep.LoopGhost
set_option linter.unusedSimpArgs false
set_option linter.unusedVariables false
namespace Go.Proofs.YtkmcohnhanphdaaGreatDoor
open Go.RowKit Go.Dw
attribute [local go_sem ↓] Go.wp_at_zero Go.wp_at_succ
def gPt (g : Int → Rat) (i : Int) : Pt := ⟨i, txN (g i), txD (g i)⟩
def ptL (p : Pt) : List Value := [.int .i64 p.at_, .string p.num, .string p.den]
def gL (g : Int → Rat) (P : List Int) : List (List Value) := P.map fun i => ptL (gPt g i)
theorem gL_snoc (g : Int → Rat) (P : List Int) (i : Int) : gL g P ++ [[.int .i64 i, .string (txN (g i)), .string (txD (g i))]] = gL g (P ++ [i]) := by
  unfold gL
  rw [List.map_append]
  rfl
theorem gL_len (g : Int → Rat) (P : List Int) : (gL g P).length = P.length := List.length_map ..
def bentG (g : Int → Rat) (i : Int) : Bool := decide (g i - g (i - 1) ≠ g (i + 1) - g i)
def fillP : Nat → Int → List Int → List Int
  | 0, _, out => out
  | m + 1, i, out => if out.length ≤ 50 then fillP m (i + 1) (out ++ [i]) else out
def oneP (g : Int → Rat) (out : List Int) (a : Int) : List Int := if (decide (0 < a) && bentG g a) = true then out ++ [a] else out
def twoP (g : Int → Rat) (out : List Int) (a b : Int) : List Int := if (decide (2 ≤ b - a) && bentG g (a + 1)) = true then fillP (b - (a + 1)).toNat (a + 1) out else out
def pairsK (g : Int → Rat) (l : List Int) (o0 : List Int) : Nat → List Int
  | 0 => o0
  | k + 1 => twoP g (oneP g (pairsK g l o0 k) (elOf l k)) (elOf l k) (elOf l (k + 1))
def firstP (g : Int → Rat) : List Int := if g 0 = g 1 then [] else [0]
def lastP (g : Int → Rat) (n : Int) (out : List Int) : List Int := if g (n - 1) = g (n - 2) then out else out ++ [n - 1]
def someP (out : List Int) : List Int := if out = [] then [0] else out
def plainP (g : Int → Rat) (bs : List Int) (n : Int) : List Int :=
  if n = 1 then [0] else someP (lastP g n (pairsK g (endsL (insL n bs)) (firstP g) ((endsL (insL n bs)).length - 1)))
theorem fillP_len : ∀ (m : Nat) (i : Int) (out : List Int), (fillP m i out).length ≤ max 51 out.length
  | 0, _, out => Nat.le_max_right _ _
  | m + 1, i, out => by
    rw [fillP]
    split
    · have := fillP_len m (i + 1) (out ++ [i])
      simp only [List.length_append, List.length_singleton] at this
      omega
    · exact Nat.le_max_right _ _
theorem oneP_len (g : Int → Rat) (out : List Int) (a : Int) : (oneP g out a).length ≤ out.length + 1 := by
  unfold oneP; split <;> simp
theorem twoP_len (g : Int → Rat) (out : List Int) (a b : Int) : (twoP g out a b).length ≤ max 51 out.length := by
  unfold twoP
  split
  · exact fillP_len _ _ _
  · exact Nat.le_max_right _ _
theorem pairsK_len (g : Int → Rat) (l o0 : List Int) (h0 : o0.length ≤ 1) : ∀ k, (pairsK g l o0 k).length ≤ 52 + k
  | 0 => by rw [pairsK]; omega
  | k + 1 => by
    rw [pairsK]
    have h1 := pairsK_len g l o0 h0 k
    have h2 := oneP_len g (pairsK g l o0 k) (elOf l k)
    have h3 := twoP_len g (oneP g (pairsK g l o0 k) (elOf l k)) (elOf l k) (elOf l (k + 1))
    omega
theorem endsL_len (l : List Int) : (endsL l).length ≤ l.length := by
  rw [← ends_sorted]
  exact Nat.le_trans (compact_len _) (by rw [List.length_mergeSort]; exact Nat.le_refl _)
theorem firstP_len (g : Int → Rat) : (firstP g).length ≤ 1 := by unfold firstP; split <;> simp
theorem lastP_len (g : Int → Rat) (n : Int) (out : List Int) : (lastP g n out).length ≤ out.length + 1 := by unfold lastP; split <;> simp
theorem ends_two {n : Int} (hn : 2 ≤ n) (bs : List Int) : 2 ≤ (endsL (insL n bs)).length := by
  have h0 : (0 : Int) ∈ endsL (insL n bs) := (endsL_mem _ _).2 (by simp [insL])
  have h1 : n - 1 ∈ endsL (insL n bs) := (endsL_mem _ _).2 (by simp [insL])
  generalize endsL (insL n bs) = l at h0 h1
  match l, h0, h1 with
  | [], h, _ => simp at h
  | [x], h, h' => simp at h h'; omega
  | x :: y :: r, _, _ => simp
theorem addr0 (g k : Nat) : (⟨g, 0, none⟩ : Addr).add k = ⟨g, k, none⟩ := by unfold Addr.add; split <;> simp_all
theorem IntsAt.of_block {w w' : World} {B n g : Nat} {l : List Int} (h : IntsAt w B (some ⟨g, 0, none⟩) n l) (hb : w'.heap[g]? = w.heap[g]?) : IntsAt w' B (some ⟨g, 0, none⟩) n l :=
  ⟨h.1, fun k hk => by
    obtain ⟨ad, e, h1, h2⟩ := h.2 k hk
    injection e with e
    subst e
    refine ⟨_, rfl, h1, ?_⟩
    rw [addr0] at h2 ⊢
    exact (World.cell?_of_block (a := ⟨g, k, none⟩) hb).trans h2⟩
theorem wpList_push_pt {ops : Array Oper} {rest : List Oper} {o : Oper} {a : Act} {Q : Exit → Act → World → Prop} {w0 : World} (hgd : o.guard = none) (s x : Operand) (ho : o.op = .call { callee := .builtin .append, args := #[s, x], argTypes := #[56, 56] })
    (base : Nat) (A : Option Addr) (n c : Nat) (ls : List (List Value)) (i : Int) (sn sd : ByteArray) (g0 : Nat) (hg0 : w0.heap.size = g0) (hs : a.eval s = .slice A n c) (hx : a.eval x = .slice (some ⟨g0, 0, none⟩) 1 1) (hown : OwnK 3 68 w0 base (.slice A n c) ls) (hn : n ≤ 100000000000) (hb : base ≤ w0.heap.size)
    (h : ∀ g cap w', OwnK 3 68 w' base (.slice (some ⟨g, 0, none⟩) (n + 1) cap) (ls ++ [[.int .i64 i, .string sn, .string sd]]) → Below base w0 w' → (∀ (b : Nat) (cs : Array Value) (t : TypeId), w0.heap[b]? = some (Obj.cells cs t (0, 0)) → 68 ≠ t → w'.heap[b]? = some (Obj.cells cs t (0, 0))) → wpList Tryz.prog ops Q rest (a.put o.dst (.slice (some ⟨g, 0, none⟩) (n + 1) cap)) w') :
    wpList Tryz.prog ops Q (o :: rest) a (w0.alloc (.cells #[.int .i64 i, .string sn, .string sd] 68)) := by
  have hinf : (Tryz.prog.info? 68).map (fun i => (i.zero, i.size, i.bytes)) = some (some (.agg #[.int .i64 0, .string ⟨#[]⟩, .string ⟨#[]⟩]), 3, 40) := by kernel_rfl
  obtain ⟨i1, e0, e1, e2, e3⟩ := info_parts hinf
  subst hg0
  have hn' : n = ls.length := by
    obtain ⟨A', c', e, _, _⟩ := own_form hown.2
    injection e
  subst hn'
  refine wpList_append_lies _ hgd s x 56 ho base 68 i1 _ 3 40 Tryz.underlying56 e0 e1 e2 e3 rfl (by omega) (.slice A ls.length c) ls.length ls.flatten hs (World.ownsRow.alloc hown.2 _) ⟨w0.heap.size, 0, none⟩ 1 1 [.int .i64 i, .string sn, .string sd] hx rfl (fun j u hj => ?_) (by intro u hu; simp at hu; rcases hu with rfl | rfl | rfl <;> rfl) (by omega) (by simp only [maxLen]; omega) (by omega) (by simp; omega) _ rfl ?_
  · rw [addr0, World.cell?_alloc_new]
    simpa using hj
  · intro g cap w' h1 h2 _ _
    refine h g cap w' (hown.snoc rfl h1) ((((Below.refl base w0).alloc hb _).grown h2 (by simp; omega) (fun b e => (own_lt hown.2 e).1))) (fun b cs t hbb ht => ?_)
    have hlt := blk_lt hbb
    refine (h2.block b (by simp; omega) (fun e => ?_)).trans ((Below.heap_alloc _ _ _ (by omega)).trans hbb)
    exact own_ne_blk hown.2 hbb ht e.symm
set_option maxRecDepth 100000 in
set_option maxHeartbeats 8000000 in
theorem PLAIN_any (f1 : FuncId) (cs1 : Array Value) (DA : Nat → Prop) (q1 : Int → Rat) (A : Option Addr) (m c : Nat) (bs : List Int) (n : Int) (hn : 1 ≤ n ∧ n ≤ 1000000) (hm : m ≤ 100000) (hcm : m ≤ c) (w : World) (B : Nat) (hB : B ≤ w.heap.size) (hF1 : Hid (FnAt DA w f1 cs1 q1 40000)) (hA : Hid (IntsAt w B A m bs)) :
    Calls Tryz.prog 54 #[.agg #[.func (.func f1) #[] cs1, .slice A m c], .int .i64 n] w fun e w' => ∃ v, e = .returned v ∧ OwnK 3 68 w' w.heap.size v (gL q1 (plainP q1 bs n)) ∧ Below w.heap.size w w' := by
  obtain ⟨hn0, hn1⟩ := hn
  obtain ⟨W, g2, hW, hg, HX, HBW, HSW⟩ := cell_new w 116 #[.func (.func f1) #[] cs1, .slice A m c]
  obtain ⟨x0, _, _, _⟩ := two_cells HX.out
  have HF := Lib.hid (hF1.out.below HBW.out)
  have HA : Hid (IntsAt W B A m bs) := hA.out.below HBW.out hB
  have hBW : B ≤ W.heap.size := Nat.le_trans hB HBW.out.size
  have he1 := hF1.out.enter
  by_cases h1 : n = 1
  · subst h1
    have HP : Hid (plainP q1 bs 1 = [0]) := by show _ = _; unfold plainP; rw [if_pos rfl]
    go_enter Tryz.func54, Tryz.ntmps54
    go_upto_region 1 with (fail)
    rw [← hW, ← hg]
    clear hW hg
    go_wp2_with fail
    refine (PLAIN1_any g2 f1 cs1 DA q1 _ 0 (by omega) _ HX HF).mono ?_
    rintro e w5 ⟨rfl, hb5⟩
    rw [ptAgg_mk]
    have HB5 := Lib.hid (HBW.out.trans (hb5.mono HBW.out.size))
    have HL := Lib.hid (World.ownsRow_lit (base := w.heap.size) (size := 3) (e := 68) w5 #[.int .i64 0, .string (txN (q1 0)), .string (txD (q1 0))] 1 HB5.out.size (by unfold maxLen; omega) rfl)
    clear hb5
    go_wp2_with fail
    go_ret
    refine ⟨_, rfl, ?_, HB5.out.alloc HB5.out.size _⟩
    rw [HP.out]
    exact ⟨fun l hl => by simp [gL] at hl; subst hl; rfl, HL.out⟩
  have hn2 : 2 ≤ n := by omega
  have hd1 : (n == 1) = false := by simpa using h1
  clear h1
  go_enter Tryz.func54, Tryz.ntmps54
  go_upto_region 1 with (fail)
  rw [← hW, ← hg]
  clear hW hg
  go_upto_region 5 with (fail)
  refine wp_region_text 8 (fun x9 => x9.cell? ⟨g2, 0, none⟩ = some (.func (.func f1) #[] cs1)) (by kernel_rfl) (by kernel_rfl) ?_
  obtain ⟨wc, hwc⟩ : ∃ x : World, x = W.drew := ⟨_, rfl⟩
  have hbn : Below W.heap.size W W.drew := (Below.refl _ _).drew
  clear hbn
  have HBc : Hid (Below W.heap.size W wc) := by show Below _ _ _; rw [hwc]; exact (Below.refl _ _).drew
  have hS : wc.cell? ⟨g2, 0, none⟩ = some (.func (.func f1) #[] cs1) := by rw [hwc]; exact x0
  have hg_0 : g2 < wc.heap.size := by rw [hwc]; exact blk_lt HX.out
  rw [← hwc]
  clear hwc
  refine HT.take (i := 0) (oi := _) (v := ?_) rfl (by kernel_rfl) (by kernel_rfl) (by decide) (fun _ _ _ h => h) (Or.inl ⟨by rfl, ?_⟩) hS ?_
  rotate_left
  · intro wz
    go_simp
    try with_reducible rfl
  simp only [zA, zB, zC, Act.put, zD, zE, zF]
  refine HT.load (i := 1) (oi := _) (v := ?_) rfl (by kernel_rfl) (by kernel_rfl) (by decide) (fun _ _ _ h => h) (by kernel_rfl) (Or.inl ⟨by rfl, ?_⟩) hS ?_
  rotate_left
  · intro wz hwz
    try dsimp only at hwz
    go_simp
    try with_reducible rfl
  simp only [zA, zB, zC, Act.put, zD, zE, zF]
  refine HT.take (i := 3) (oi := _) (v := ?_) rfl (by kernel_rfl) (by kernel_rfl) (by decide) (fun _ _ _ h => h) (Or.inl ⟨by rfl, ?_⟩) hS ?_
  rotate_left
  · intro wz
    go_simp
    try with_reducible rfl
  simp only [zA, zB, zC, Act.put, zD, zE, zF]
  refine HT.load (i := 4) (oi := _) (v := ?_) rfl (by kernel_rfl) (by kernel_rfl) (by decide) (fun _ _ _ h => h) (by kernel_rfl) (Or.inl ⟨by rfl, ?_⟩) hS ?_
  rotate_left
  · intro wz hwz
    try dsimp only at hwz
    go_simp
    try with_reducible rfl
  simp only [zA, zB, zC, Act.put, zD, zE, zF]
  refine HT.one (i := 2) (o := _) rfl (by kernel_rfl) (by decide) (by rfl) ?_
  intro K hK
  go_simp
  refine (HF.out.at_ HBc.out 0 (by omega) (by omega)).mono ?_
  rintro e wn ⟨ng1, A1, n1, c1, D1, d1, e1, rfl, hH1, k1, m1, hbn⟩
  have H1 := Lib.hid hH1
  clear hH1
  have HBn := Lib.hid (HBc.out.trans (hbn.mono HBc.out.size))
  have hSn : wn.cell? ⟨g2, 0, none⟩ = some (.func (.func f1) #[] cs1) := (hbn.cell (p := ⟨g2, 0, none⟩) hg_0).trans hS
  have hgn_0 := Nat.lt_of_lt_of_le hg_0 hbn.size
  refine hK.out _ _ hSn ?_
  clear hK K hS HBc hg_0
  try simp only [zA, zB, zC, Act.put, zD, zE, zF]
  have hS := hSn
  have HBc := HBn
  have hg_0 := hgn_0
  clear hSn HBn hbn hgn_0
  obtain ⟨wc, rfl⟩ : ∃ x : World, x = wn := ⟨_, rfl⟩
  refine HT.one (i := 5) (o := _) rfl (by kernel_rfl) (by decide) (by rfl) ?_
  intro K hK
  go_simp
  refine (HF.out.at_ HBc.out 1 (by omega) (by omega)).mono ?_
  rintro e wn ⟨ng2, A2, n2, c2, D2, d2, e2, rfl, hH2, k2, m2, hbn⟩
  have H2 := Lib.hid hH2
  clear hH2
  replace H1 := Lib.hid (H1.out.to hbn (Nat.le_refl _) hbn.size)
  have HBn := Lib.hid (HBc.out.trans (hbn.mono HBc.out.size))
  have hSn : wn.cell? ⟨g2, 0, none⟩ = some (.func (.func f1) #[] cs1) := (hbn.cell (p := ⟨g2, 0, none⟩) hg_0).trans hS
  have hgn_0 := Nat.lt_of_lt_of_le hg_0 hbn.size
  refine hK.out _ _ hSn ?_
  clear hK K hS HBc hg_0
  try simp only [zA, zB, zC, Act.put, zD, zE, zF]
  have hS := hSn
  have HBc := HBn
  have hg_0 := hgn_0
  clear hSn HBn hbn hgn_0
  obtain ⟨wc, rfl⟩ : ∃ x : World, x = wn := ⟨_, rfl⟩
  refine HT.one (i := 6) (o := _) rfl (by kernel_rfl) (by decide) (by rfl) ?_
  intro K hK
  go_simp
  refine (QCMP_any ng1 ng2 A1 A2 D1 D2 n1 c1 d1 e1 n2 c2 d2 e2 _ _ (by omega) (by omega) (by omega) (by omega) _ wc.heap.size (Nat.le_refl _) H1 H2).mono ?_
  rintro e wn ⟨rfl, hbn⟩
  clear H1 H2
  have HBn := Lib.hid (HBc.out.trans (hbn.mono HBc.out.size))
  have hSn : wn.cell? ⟨g2, 0, none⟩ = some (.func (.func f1) #[] cs1) := (hbn.cell (p := ⟨g2, 0, none⟩) hg_0).trans hS
  have hgn_0 := Nat.lt_of_lt_of_le hg_0 hbn.size
  refine hK.out _ _ hSn ?_
  clear hK K hS HBc hg_0
  try simp only [zA, zB, zC, Act.put, zD, zE, zF]
  have hS := hSn
  have HBc := HBn
  have hg_0 := hgn_0
  clear hSn HBn hbn hgn_0
  obtain ⟨wc, rfl⟩ : ∃ x : World, x = wn := ⟨_, rfl⟩
  refine HT.take (i := 7) (oi := _) (v := ?_) rfl (by kernel_rfl) (by kernel_rfl) (by decide) (fun _ _ _ h => h) (Or.inl ⟨by rfl, ?_⟩) hS ?_
  rotate_left
  · intro wz
    go_simp
    try with_reducible rfl
  simp only [zA, zB, zC, Act.put, zD, zE, zF]
  refine HT.done (by kernel_rfl) ?_
  clear hS
  simp only [List.drop_succ_cons, List.drop_zero]
  obtain ⟨wb, rfl⟩ : ∃ x : World, x = wc := ⟨_, rfl⟩
  have HXb := Lib.hid ((HBc.out.block g2 (blk_lt HX.out)).trans HX.out)
  have HFb := Lib.hid (HF.out.below HBc.out)
  have HNb := Lib.hid (OwnK.nil 3 68 wb W.heap.size)
  have hd5 : (cmpQ (q1 0) (q1 1) != 0) = !decide (q1 0 = q1 1) := by
    by_cases h9 : q1 0 = q1 1
    · rw [(cmpQ_zero _ _).2 h9, decide_eq_true h9]; rfl
    · have h8 : cmpQ (q1 0) (q1 1) ≠ 0 := fun h => h9 ((cmpQ_zero _ _).1 h)
      rw [decide_eq_false h9]; simpa using h8
  obtain ⟨b5, hb5⟩ : ∃ b5, decide (q1 0 = q1 1) = b5 := ⟨_, rfl⟩
  rw [hd5, hb5]
  have HB5' := Lib.hid hb5
  clear hd5 hb5
  go_upto_if 25 with (fail)
  go_cut [6] (fun v wx => ∃ A5 c5, v = .slice A5 (firstP q1).length c5 ∧ Hid (OwnK 3 68 wx W.heap.size (.slice A5 (firstP q1).length c5) (gL q1 (firstP q1))) ∧ Hid (Below W.heap.size W wx))
  case first =>
    cases b5 with
    | true =>
      have hP : Hid (firstP q1 = []) := by show _ = _; unfold firstP; rw [if_pos (of_decide_eq_true HB5'.out)]
      go_wp2_with fail
      go_meet
      rw [hP.out]
      exact ⟨_, _, rfl, HNb.out, HBc.out⟩
    | false =>
      have hP : Hid (firstP q1 = [0]) := by show _ = _; unfold firstP; rw [if_neg (of_decide_eq_false HB5'.out)]
      go_wp2_with fail
      refine (PLAIN1_any g2 f1 cs1 DA q1 _ 0 (by omega) _ HXb HFb).mono ?_
      rintro e w5 ⟨rfl, hb5⟩
      rw [ptAgg_mk]
      have HBN5 := Lib.hid hb5
      have HO5 := Lib.hid (HNb.out.below hb5)
      have HB5 := Lib.hid (HBc.out.trans (hb5.mono HBc.out.size))
      have hsz5 := HB5.out.size
      clear hb5
      go_wp2_with (at_builtin; refine wpList_push_pt rfl (.tmp 26) (.tmp 29) rfl W.heap.size _ _ _ (gL q1 []) 0 (txN (q1 0)) (txD (q1 0)) _ rfl rfl rfl HO5.out (by omega) hsz5 ?_; intro g9 cap9 w9 hown9 hb9 hkp9; rw [gL_snoc] at hown9; have HO9 := Lib.hid hown9; have HB9 := Lib.hid (HB5.out.trans hb9); have HK9 := Lib.hid hkp9; clear hown9 hb9 hkp9)
      go_meet
      rw [hP.out]
      exact ⟨_, _, rfl, HO9.out, HB9.out⟩
  case rest =>
  obtain ⟨A5, c5, rfl, HO, HB⟩ := hcut
  have hP1 := firstP_len q1
  obtain ⟨wd, rfl⟩ : ∃ x : World, x = wc := ⟨_, rfl⟩
  have HXd := Lib.hid ((HB.out.block g2 (blk_lt HX.out)).trans HX.out)
  have HFd := Lib.hid (HF.out.below HB.out)
  have HAd : Hid (IntsAt wd B A m bs) := HA.out.below HB.out hBW
  clear HXb HFb HNb HBc HB5'
  obtain ⟨x0, x1, _, _⟩ := two_cells HXd.out
  go_wp2_with fail
  refine (INSIDE_any (.func (.func f1) #[] cs1) A m c bs n ⟨hn2, hn1⟩ hm hcm wd B (Nat.le_trans hBW HB.out.size) HAd).mono ?_
  rintro e w3 ⟨v, rfl, hov, hb3⟩
  obtain ⟨l, hlv⟩ : ∃ l, endsL (insL n bs) = l := ⟨_, rfl⟩
  have HLV := Lib.hid hlv
  have hl2 : 2 ≤ l.length := by rw [← hlv]; exact ends_two hn2 bs
  have hlm : l.length ≤ 100002 := by rw [← hlv]; have h1 := endsL_len (insL n bs); have h2 := insL_len n bs; have h3 := HA.out.1; omega
  have HIN : Hid (∀ x ∈ l, 0 ≤ x ∧ x ≤ n - 1) := fun x hx => insL_mem hn2 ((endsL_mem _ _).1 (by rw [hlv]; exact hx))
  rw [hlv] at hov
  obtain ⟨A7, c7, rfl, _, _⟩ := hov.len
  obtain ⟨g7, cur7, hA7, _, _, hg7, _⟩ := hov.block (by omega)
  subst hA7
  have HIL := Lib.hid (hov.ints)
  have HG7 := Lib.hid hg7
  clear hg7
  have HO3 := Lib.hid (HO.out.below hb3)
  have HB3 := Lib.hid (HB.out.trans (hb3.mono HB.out.size))
  obtain ⟨ln, hln⟩ : ∃ ln, l.length = ln := ⟨_, rfl⟩
  have HLN := Lib.hid hln
  rw [hln] at HIL hl2 hlm ⊢
  clear x0 x1 hlv hov hb3 HO HB HXd HFd HAd hln
  go_upto_block 0 with (fail)
  go_cut [6] (fun v wx => Hid (OwnK 3 68 wx W.heap.size v (gL q1 (pairsK q1 l (firstP q1) (ln - 1)))) ∧ Hid (Below W.heap.size W wx))
  case first =>
    go_wp2_with fail
    go_loopg [6, 8] ln (fun gh v6 v8 wr => ∃ k : Nat, k + gh = ln ∧ k + 1 ≤ ln ∧ v8 = .int .i64 k ∧ Hid (OwnK 3 68 wr W.heap.size v6 (gL q1 (pairsK q1 l (firstP q1) k))) ∧ Hid (Below W.heap.size W wr) ∧ Hid (wr.heap[g7]? = some (.cells cur7 3 (0, 0))))
    case atStart => exact ⟨0, by omega, by omega, rfl, HO3.out, HB3.out, HG7.out⟩
    case round =>
      obtain ⟨k, hkg, hkl, rfl, HOr, HBr, HGr⟩ := hrel
      have hkw : IntKind.i64.wrap ((k : Int) + 1) = (k : Int) + 1 := IntWalk.i64_in _ (by omega)
      by_cases hlt : k + 1 < ln
      · have hlt9 := hlt
        obtain ⟨g1, rfl⟩ : ∃ g1 : Nat, g1 = gk := ⟨_, rfl⟩
        have hkI : (k : Int) + 1 < (ln : Int) := by omega
        have hk0 : (0 : Int) ≤ (k : Int) := by omega
        have hk01 : (0 : Int) ≤ (k : Int) + 1 := by omega
        have hkI0 : (k : Int) < (ln : Int) := by omega
        obtain ⟨P, hP⟩ : ∃ P, pairsK q1 l (firstP q1) k = P := ⟨_, rfl⟩
        have HPK : Hid (pairsK q1 l (firstP q1) (k + 1) = twoP q1 (oneP q1 P (elOf l k)) (elOf l k) (elOf l (k + 1))) := by show _ = _; rw [pairsK, hP]
        have hPl : P.length ≤ 52 + k := by rw [← hP]; exact pairsK_len _ _ _ hP1 k
        rw [hP] at HOr
        clear hP
        have HILr : Hid (IntsAt wr w3.heap.size (some ⟨g7, 0, none⟩) ln l) := IntsAt.of_block HIL.out (HGr.out.trans HG7.out.symm)
        obtain ⟨ad, hade, had, ca⟩ := HILr.out.2 k (by omega)
        injection hade with hade
        subst hade
        obtain ⟨ad', hade, _, cb⟩ := HILr.out.2 (k + 1) (by omega)
        injection hade with hade
        subst hade
        rw [addr0] at ca cb
        have hina := HIN.out _ (el_memQ (xs := l) (k := k) (by rw [HLN.out]; omega))
        have hinb := HIN.out _ (el_memQ (xs := l) (k := k + 1) (by rw [HLN.out]; omega))
        obtain ⟨a, ha⟩ : ∃ a, elOf l k = a := ⟨_, rfl⟩
        obtain ⟨b, hb⟩ : ∃ b, elOf l (k + 1) = b := ⟨_, rfl⟩
        rw [ha] at ca hina HPK
        rw [hb] at cb hinb HPK
        clear ha hb
        obtain ⟨hina1, hina2⟩ := hina
        obtain ⟨hinb1, hinb2⟩ := hinb
        have hkt : ((k : Int) + 1).toNat = k + 1 := by omega
        go_upto_region 11 with (fail)
        refine wp_region_text 10 (fun x9 => x9.cell? ⟨g7, k, none⟩ = some (.int .i64 a) ∧ x9.cell? ⟨g7, k + 1, none⟩ = some (.int .i64 b)) (by kernel_rfl) (by kernel_rfl) ?_
        obtain ⟨Y, hY⟩ : ∃ Y, Y = wr.drew := ⟨_, rfl⟩
        have HBY0 : Hid (Below wr.heap.size wr Y) := by rw [hY]; exact (Below.refl _ _).drew
        have hS : Y.cell? ⟨g7, k, none⟩ = some (.int .i64 a) ∧ Y.cell? ⟨g7, k + 1, none⟩ = some (.int .i64 b) := by rw [hY]; exact ⟨ca, cb⟩
        rw [← hY]
        refine HT.take (i := 0) (oi := _) (v := ?_) rfl (by kernel_rfl) (by kernel_rfl) (by decide) (fun _ _ _ h => h) (Or.inl ⟨by rfl, ?_⟩) hS ?_
        rotate_left
        · intro wz
          go_simp
          try with_reducible rfl
        simp only [zA, zB, zC, Act.put, zD, zE, zF]
        refine HT.take (i := 1) (oi := _) (v := ?_) rfl (by kernel_rfl) (by kernel_rfl) (by decide) (fun _ _ _ h => h) (Or.inl ⟨by rfl, ?_⟩) hS ?_
        rotate_left
        · intro wz
          go_simp
          try with_reducible rfl
        simp only [zA, zB, zC, Act.put, zD, zE, zF]
        refine HT.take (i := 2) (oi := _) (v := ?_) rfl (by kernel_rfl) (by kernel_rfl) (by decide) (fun _ _ _ h => h) (Or.inl ⟨by rfl, ?_⟩) hS ?_
        rotate_left
        · intro wz
          go_simp
          try with_reducible rfl
        simp only [zA, zB, zC, Act.put, zD, zE, zF]
        refine HT.load (i := 3) (oi := _) (v := ?_) rfl (by kernel_rfl) (by kernel_rfl) (by decide) (fun _ _ _ h => h) (by kernel_rfl) (Or.inl ⟨by rfl, ?_⟩) hS ?_
        rotate_left
        · intro wz hwz
          try dsimp only at hwz
          go_simp
          try with_reducible rfl
        simp only [zA, zB, zC, Act.put, zD, zE, zF]
        refine HT.take (i := 4) (oi := _) (v := ?_) rfl (by kernel_rfl) (by kernel_rfl) (by decide) (fun _ _ _ h => h) (Or.inl ⟨by rfl, ?_⟩) hS ?_
        rotate_left
        · intro wz
          go_simp
          try with_reducible rfl
        simp only [zA, zB, zC, Act.put, zD, zE, zF]
        refine HT.take (i := 5) (oi := _) (v := ?_) rfl (by kernel_rfl) (by kernel_rfl) (by decide) (fun _ _ _ h => h) (Or.inl ⟨by rfl, ?_⟩) hS ?_
        rotate_left
        · intro wz
          go_simp
          try with_reducible rfl
        simp only [zA, zB, zC, Act.put, zD, zE, zF]
        refine HT.take (i := 6) (oi := _) (v := ?_) rfl (by kernel_rfl) (by kernel_rfl) (by decide) (fun _ _ _ h => h) (Or.inl ⟨by rfl, ?_⟩) hS ?_
        rotate_left
        · intro wz
          go_simp
          try with_reducible rfl
        simp only [zA, zB, zC, Act.put, zD, zE, zF]
        refine HT.take (i := 7) (oi := _) (v := ?_) rfl (by kernel_rfl) (by kernel_rfl) (by decide) (fun _ _ _ h => h) (Or.inl ⟨by rfl, ?_⟩) hS ?_
        rotate_left
        · intro wz
          go_simp
          try with_reducible rfl
        simp only [zA, zB, zC, Act.put, zD, zE, zF]
        refine HT.load (i := 8) (oi := _) (v := ?_) rfl (by kernel_rfl) (by kernel_rfl) (by decide) (fun _ _ _ h => h) (by kernel_rfl) (Or.inl ⟨by rfl, ?_⟩) hS ?_
        rotate_left
        · intro wz hwz
          try dsimp only at hwz
          go_simp
          try with_reducible rfl
        simp only [zA, zB, zC, Act.put, zD, zE, zF]
        refine HT.take (i := 9) (oi := _) (v := ?_) rfl (by kernel_rfl) (by kernel_rfl) (by decide) (fun _ _ _ h => h) (Or.inl ⟨by rfl, ?_⟩) hS ?_
        rotate_left
        · intro wz
          go_simp
          try with_reducible rfl
        simp only [zA, zB, zC, Act.put, zD, zE, zF]
        refine HT.done (by kernel_rfl) ?_
        clear hS
        simp only [List.drop_succ_cons, List.drop_zero]
        clear hkt hkw
        have HBY := Lib.hid (HBr.out.trans (HBY0.out.mono HBr.out.size))
        have HOY := Lib.hid (HOr.out.below HBY0.out)
        clear hY ca cb HOr
        have HXY := Lib.hid ((HBY.out.block g2 (blk_lt HX.out)).trans HX.out)
        have HFY := Lib.hid (HF.out.below HBY.out)
        have HGY : Hid (Y.heap[g7]? = some (.cells cur7 3 (0, 0))) := (HBY0.out.block g7 (blk_lt HGr.out)).trans HGr.out
        clear HBY0 HGr HILr
        obtain ⟨b1, hb1⟩ : ∃ b1, (decide (0 < a) && bentG q1 a) = b1 := ⟨_, rfl⟩
        have HB1' := Lib.hid hb1
        obtain ⟨b2, hb2⟩ : ∃ b2, (decide (2 ≤ b - a) && bentG q1 (a + 1)) = b2 := ⟨_, rfl⟩
        have HB2' := Lib.hid hb2
        clear hb1 hb2
        go_upto_region 12 with (fail)
        go_cut [56] (fun v wx => v = .bool b1 ∧ Hid (Below Y.heap.size Y wx))
        case first =>
          by_cases hA0 : 0 < a
          · have HBN : Hid (bentG q1 a = b1) := by show _ = _; rw [← HB1'.out, decide_eq_true hA0]; rfl
            obtain ⟨y0, y1, _, _⟩ := two_cells HXY.out
            go_wp2_with fail
            refine (BENT_any f1 cs1 DA q1 _ a (by omega) Y HFY).mono ?_
            rintro e w5 ⟨rfl, hb5⟩
            rw [show decide (q1 a - q1 (a - 1) ≠ q1 (a + 1) - q1 a) = b1 from HBN.out]
            have HB5 := Lib.hid hb5
            clear hb5
            go_wp2_with fail
            go_meet
            exact ⟨rfl, HB5.out⟩
          · obtain rfl : b1 = false := by rw [← HB1'.out, decide_eq_false hA0]; rfl
            go_wp2_with fail
            go_meet
            exact ⟨rfl, Below.refl _ _⟩
        case rest =>
        obtain ⟨rfl, HBc1⟩ := hcut
        obtain ⟨Z, rfl⟩ : ∃ x : World, x = wc := ⟨_, rfl⟩
        have HOZ := Lib.hid (HOY.out.below HBc1.out)
        have HBZ := Lib.hid (HBY.out.trans (HBc1.out.mono HBY.out.size))
        have HXZ := Lib.hid ((HBZ.out.block g2 (blk_lt HX.out)).trans HX.out)
        have HFZ := Lib.hid (HF.out.below HBZ.out)
        have HGZ : Hid (Z.heap[g7]? = some (.cells cur7 3 (0, 0))) := (HBc1.out.block g7 (blk_lt HGY.out)).trans HGY.out
        clear HOY HXY HFY HGY HBc1
        obtain ⟨A5, c5, rfl, _, _⟩ := HOZ.out.form
        rw [gL_len] at HOZ ⊢
        go_upto_if 56 with (fail)
        go_cut [6] (fun v wx => Hid (OwnK 3 68 wx W.heap.size v (gL q1 (oneP q1 P a))) ∧ Hid (Below W.heap.size W wx) ∧ Hid (wx.heap[g7]? = some (.cells cur7 3 (0, 0))))
        case first =>
          cases b1 with
          | true =>
            have hQ : Hid (oneP q1 P a = P ++ [a]) := by show _ = _; unfold oneP; rw [HB1'.out, if_pos rfl]
            go_wp2_with fail
            refine (PLAIN1_any g2 f1 cs1 DA q1 _ a (by omega) _ HXZ HFZ).mono ?_
            rintro e w5 ⟨rfl, hb5⟩
            rw [ptAgg_mk]
            have HBN5 := Lib.hid hb5
            have HO5 := Lib.hid (HOZ.out.below hb5)
            have HB5 := Lib.hid (HBZ.out.trans (hb5.mono HBZ.out.size))
            have hsz5 := HB5.out.size
            clear hb5
            go_wp2_with (at_builtin; refine wpList_push_pt rfl (.tmp 57) (.tmp 61) rfl W.heap.size _ _ _ (gL q1 P) a (txN (q1 a)) (txD (q1 a)) _ rfl rfl rfl HO5.out (by omega) hsz5 ?_; intro g9 cap9 w9 hown9 hb9 hkp9; rw [gL_snoc] at hown9; have HO9 := Lib.hid hown9; have HB9 := Lib.hid (HB5.out.trans hb9); have HK9 := Lib.hid hkp9; clear hown9 hb9 hkp9)
            go_meet
            rw [hQ.out]
            exact ⟨HO9.out, HB9.out, HK9.out _ _ _ ((HBN5.out.block g7 (blk_lt HGZ.out)).trans HGZ.out) (by decide)⟩
          | false =>
            have hQ : Hid (oneP q1 P a = P) := by show _ = _; unfold oneP; rw [HB1'.out, if_neg (by simp)]
            go_wp2_with fail
            go_meet
            rw [hQ.out]
            exact ⟨HOZ.out, HBZ.out, HGZ.out⟩
        case rest =>
        obtain ⟨HOU, HBU, HGU⟩ := hcut
        obtain ⟨U, rfl⟩ : ∃ x : World, x = wc := ⟨_, rfl⟩
        clear HOZ HBZ HXZ HFZ HGZ HB1'
        obtain ⟨P2, hP2⟩ : ∃ P2, oneP q1 P a = P2 := ⟨_, rfl⟩
        have hPl2 : P2.length ≤ 53 + k := by rw [← hP2]; have := oneP_len q1 P a; omega
        rw [hP2] at HOU HPK
        clear hP2 hPl
        have HXU := Lib.hid ((HBU.out.block g2 (blk_lt HX.out)).trans HX.out)
        have HFU := Lib.hid (HF.out.below HBU.out)
        go_upto_region 14 with (fail)
        go_cut [72] (fun v wx => v = .bool b2 ∧ Hid (Below U.heap.size U wx))
        case first =>
          have hwba : IntKind.i64.wrap (b - a) = b - a := IntWalk.i64_in _ (by omega)
          by_cases hA0 : 2 ≤ b - a
          · have HBN : Hid (bentG q1 (a + 1) = b2) := by show _ = _; rw [← HB2'.out, decide_eq_true hA0]; rfl
            obtain ⟨y0, y1, _, _⟩ := two_cells HXU.out
            go_wp2_with fail
            refine (BENT_any f1 cs1 DA q1 _ (a + 1) (by omega) U HFU).mono ?_
            rintro e w5 ⟨rfl, hb5⟩
            rw [show decide (q1 (a + 1) - q1 (a + 1 - 1) ≠ q1 (a + 1 + 1) - q1 (a + 1)) = b2 from HBN.out]
            have HB5 := Lib.hid hb5
            clear hb5
            go_wp2_with fail
            go_meet
            exact ⟨rfl, HB5.out⟩
          · obtain rfl : b2 = false := by rw [← HB2'.out, decide_eq_false hA0]; rfl
            go_wp2_with fail
            go_meet
            exact ⟨rfl, Below.refl _ _⟩
        case rest =>
        obtain ⟨rfl, HBc1⟩ := hcut
        obtain ⟨Z, rfl⟩ : ∃ x : World, x = wc := ⟨_, rfl⟩
        have HOZ := Lib.hid (HOU.out.below HBc1.out)
        have HBZ := Lib.hid (HBU.out.trans (HBc1.out.mono HBU.out.size))
        have HGZ : Hid (Z.heap[g7]? = some (.cells cur7 3 (0, 0))) := (HBc1.out.block g7 (blk_lt HGU.out)).trans HGU.out
        clear HOU HXU HFU HGU HBc1 HBU
        cases b2 with
        | false =>
          have hQ : Hid (twoP q1 P2 a b = P2) := by show _ = _; unfold twoP; rw [HB2'.out, if_neg (by simp)]
          go_wp2_with fail
          go_roundg (g1 - 1)
          case measure => omega
          case rel => exact ⟨k + 1, by omega, by omega, by go_num, by rw [HPK.out, hQ.out]; exact HOZ.out, HBZ, HGZ⟩
        | true =>
          have hQ : Hid (twoP q1 P2 a b = fillP (b - (a + 1)).toNat (a + 1) P2) := by show _ = _; unfold twoP; rw [HB2'.out, if_pos rfl]
          have hba : 2 ≤ b - a := by
            have h9 := HB2'.out
            simp only [Bool.and_eq_true, decide_eq_true_eq] at h9
            exact h9.1
          go_wp2_with fail
          go_loopg [6, 11] (b - (a + 1)).toNat (fun gh v6 v11 wr => ∃ (i : Int) (P3 : List Int), v11 = .int .i64 i ∧ a + 1 ≤ i ∧ i + (gh : Int) = b ∧ P3.length ≤ 200000 ∧ Hid (fillP gh i P3 = fillP (b - (a + 1)).toNat (a + 1) P2) ∧ Hid (OwnK 3 68 wr W.heap.size v6 (gL q1 P3)) ∧ Hid (Below W.heap.size W wr) ∧ Hid (wr.heap[g7]? = some (.cells cur7 3 (0, 0))))
          case atStart => exact ⟨a + 1, P2, rfl, by omega, by omega, by omega, rfl, HOZ, HBZ, HGZ⟩
          case round =>
            obtain ⟨i, P3, rfl, hi1, hi2, hP3, HFL, HO4, HB4, HG4⟩ := hrel
            obtain ⟨A6, c6, rfl, _, _⟩ := HO4.out.form
            rw [gL_len] at HO4 ⊢
            have HX4 := Lib.hid ((HB4.out.block g2 (blk_lt HX.out)).trans HX.out)
            have HF4 := Lib.hid (HF.out.below HB4.out)
            by_cases hib : i < b
            · obtain ⟨g', rfl⟩ : ∃ g', gk = g' + 1 := ⟨gk - 1, by omega⟩
              by_cases hle : P3.length ≤ 50
              · have HFL2 : Hid (fillP g' (i + 1) (P3 ++ [i]) = fillP (b - (a + 1)).toNat (a + 1) P2) := by show _ = _; rw [← HFL.out, fillP, if_pos hle]
                go_wp2_with fail
                refine (PLAIN1_any g2 f1 cs1 DA q1 _ i (by omega) _ HX4 HF4).mono ?_
                rintro e w5 ⟨rfl, hb5⟩
                rw [ptAgg_mk]
                have HBN5 := Lib.hid hb5
                have HO5 := Lib.hid (HO4.out.below hb5)
                have HB5 := Lib.hid (HB4.out.trans (hb5.mono HB4.out.size))
                have hsz5 := HB5.out.size
                clear hb5
                go_wp2_with (at_builtin; refine wpList_push_pt rfl (.tmp 85) (.tmp 89) rfl W.heap.size _ _ _ (gL q1 P3) i (txN (q1 i)) (txD (q1 i)) _ rfl rfl rfl HO5.out (by omega) hsz5 ?_; intro g9 cap9 w9 hown9 hb9 hkp9; rw [gL_snoc] at hown9; have HO9 := Lib.hid hown9; have HB9 := Lib.hid (HB5.out.trans hb9); have HK9 := Lib.hid hkp9; clear hown9 hb9 hkp9)
                have HG9 : Hid (w9.heap[g7]? = some (.cells cur7 3 (0, 0))) := HK9.out _ _ _ ((HBN5.out.block g7 (blk_lt HG4.out)).trans HG4.out) (by decide)
                go_roundg g'
                case measure => omega
                case rel => exact ⟨i + 1, P3 ++ [i], rfl, by omega, by omega, by rw [List.length_append, List.length_singleton]; omega, HFL2, HO9, HB9, HG9⟩
              · have HFL2 : Hid (twoP q1 P2 a b = P3) := by show _ = _; rw [hQ.out, ← HFL.out, fillP, if_neg hle]
                have hle2 : ¬ ((P3.length : Nat) : Int) ≤ 50 := by omega
                go_wp2_with fail
                go_roundg (g1 - 1)
                case measure => omega
                case rel => exact ⟨k + 1, by omega, by omega, by go_num, by rw [HPK.out, HFL2.out]; exact HO4.out, HB4, HG4⟩
            · obtain rfl : gk = 0 := by omega
              have HFL2 : Hid (twoP q1 P2 a b = P3) := by show _ = _; rw [hQ.out, ← HFL.out, fillP]
              go_wp2_with fail
              go_roundg (g1 - 1)
              case measure => omega
              case rel => exact ⟨k + 1, by omega, by omega, by go_num, by rw [HPK.out, HFL2.out]; exact HO4.out, HB4, HG4⟩
      · obtain rfl : ln = k + 1 := by omega
        have hnk : ¬ (k : Int) + 1 < ((k + 1 : Nat) : Int) := by omega
        clear hkw
        go_wp2_with fail
        go_meet
        exact ⟨HOr.out, HBr.out⟩
  case rest =>
    obtain ⟨HOb, HBb⟩ := hcut
    obtain ⟨wb, rfl⟩ : ∃ x : World, x = wc := ⟨_, rfl⟩
    obtain ⟨PL, hPL⟩ : ∃ PL, pairsK q1 l (firstP q1) (ln - 1) = PL := ⟨_, rfl⟩
    have hPLl : PL.length ≤ 200000 := by rw [← hPL]; have := pairsK_len q1 l (firstP q1) hP1 (ln - 1); omega
    have HPP0 : Hid (plainP q1 bs n = someP (lastP q1 n PL)) := by show _ = _; unfold plainP; rw [if_neg (by omega), HLV.out, HLN.out, hPL]
    rw [hPL] at HOb
    have HXb := Lib.hid ((HBb.out.block g2 (blk_lt HX.out)).trans HX.out)
    have HFb := Lib.hid (HF.out.below HBb.out)
    obtain ⟨A6, c6, rfl, _, _⟩ := HOb.out.form
    rw [gL_len] at HOb ⊢
    obtain ⟨x0, _, _, _⟩ := two_cells HXb.out
    clear hPL HO3 HB3 HIL HG7 HIN HLV HLN
    go_upto_region 19 with (fail)
    refine wp_region_text 12 (fun x9 => x9.cell? ⟨g2, 0, none⟩ = some (.func (.func f1) #[] cs1)) (by kernel_rfl) (by kernel_rfl) ?_
    obtain ⟨wc, hwc⟩ : ∃ x : World, x = wb.drew := ⟨_, rfl⟩
    have hbn : Below wb.heap.size wb wb.drew := (Below.refl _ _).drew
    clear hbn
    have HBc : Hid (Below wb.heap.size wb wc) := by show Below _ _ _; rw [hwc]; exact (Below.refl _ _).drew
    have hS : wc.cell? ⟨g2, 0, none⟩ = some (.func (.func f1) #[] cs1) := by rw [hwc]; exact x0
    have hg_0 : g2 < wc.heap.size := by rw [hwc]; exact blk_lt HXb.out
    rw [← hwc]
    clear hwc
    refine HT.take (i := 0) (oi := _) (v := ?_) rfl (by kernel_rfl) (by kernel_rfl) (by decide) (fun _ _ _ h => h) (Or.inl ⟨by rfl, ?_⟩) hS ?_
    rotate_left
    · intro wz
      go_simp
      try with_reducible rfl
    simp only [zA, zB, zC, Act.put, zD, zE, zF]
    refine HT.load (i := 1) (oi := _) (v := ?_) rfl (by kernel_rfl) (by kernel_rfl) (by decide) (fun _ _ _ h => h) (by kernel_rfl) (Or.inl ⟨by rfl, ?_⟩) hS ?_
    rotate_left
    · intro wz hwz
      try dsimp only at hwz
      go_simp
      try with_reducible rfl
    simp only [zA, zB, zC, Act.put, zD, zE, zF]
    refine HT.take (i := 2) (oi := _) (v := ?_) rfl (by kernel_rfl) (by kernel_rfl) (by decide) (fun _ _ _ h => h) (Or.inl ⟨by rfl, ?_⟩) hS ?_
    rotate_left
    · intro wz
      go_simp
      try with_reducible rfl
    simp only [zA, zB, zC, Act.put, zD, zE, zF]
    refine HT.take (i := 3) (oi := _) (v := ?_) rfl (by kernel_rfl) (by kernel_rfl) (by decide) (fun _ _ _ h => h) (Or.inl ⟨by rfl, ?_⟩) hS ?_
    rotate_left
    · intro wz
      go_simp
      try with_reducible rfl
    simp only [zA, zB, zC, Act.put, zD, zE, zF]
    refine HT.take (i := 5) (oi := _) (v := ?_) rfl (by kernel_rfl) (by kernel_rfl) (by decide) (fun _ _ _ h => h) (Or.inl ⟨by rfl, ?_⟩) hS ?_
    rotate_left
    · intro wz
      go_simp
      try with_reducible rfl
    simp only [zA, zB, zC, Act.put, zD, zE, zF]
    refine HT.load (i := 6) (oi := _) (v := ?_) rfl (by kernel_rfl) (by kernel_rfl) (by decide) (fun _ _ _ h => h) (by kernel_rfl) (Or.inl ⟨by rfl, ?_⟩) hS ?_
    rotate_left
    · intro wz hwz
      try dsimp only at hwz
      go_simp
      try with_reducible rfl
    simp only [zA, zB, zC, Act.put, zD, zE, zF]
    refine HT.take (i := 7) (oi := _) (v := ?_) rfl (by kernel_rfl) (by kernel_rfl) (by decide) (fun _ _ _ h => h) (Or.inl ⟨by rfl, ?_⟩) hS ?_
    rotate_left
    · intro wz
      go_simp
      try with_reducible rfl
    simp only [zA, zB, zC, Act.put, zD, zE, zF]
    refine HT.take (i := 8) (oi := _) (v := ?_) rfl (by kernel_rfl) (by kernel_rfl) (by decide) (fun _ _ _ h => h) (Or.inl ⟨by rfl, ?_⟩) hS ?_
    rotate_left
    · intro wz
      go_simp
      try with_reducible rfl
    simp only [zA, zB, zC, Act.put, zD, zE, zF]
    refine HT.one (i := 4) (o := _) rfl (by kernel_rfl) (by decide) (by rfl) ?_
    intro K hK
    go_simp
    rw [IntWalk.i64_in (n - 1) (by omega)]
    refine (HFb.out.at_ HBc.out (n - 1) (by omega) (by omega)).mono ?_
    rintro e wn ⟨ng1, A1, n1, c1, D1, d1, e1, rfl, hH1, k1, m1, hbn⟩
    have H1 := Lib.hid hH1
    clear hH1
    have HBn := Lib.hid (HBc.out.trans (hbn.mono HBc.out.size))
    have hSn : wn.cell? ⟨g2, 0, none⟩ = some (.func (.func f1) #[] cs1) := (hbn.cell (p := ⟨g2, 0, none⟩) hg_0).trans hS
    have hgn_0 := Nat.lt_of_lt_of_le hg_0 hbn.size
    refine hK.out _ _ hSn ?_
    clear hK K hS HBc hg_0
    try simp only [zA, zB, zC, Act.put, zD, zE, zF]
    have hS := hSn
    have HBc := HBn
    have hg_0 := hgn_0
    clear hSn HBn hbn hgn_0
    obtain ⟨wc, rfl⟩ : ∃ x : World, x = wn := ⟨_, rfl⟩
    refine HT.one (i := 9) (o := _) rfl (by kernel_rfl) (by decide) (by rfl) ?_
    intro K hK
    go_simp
    rw [IntWalk.i64_in (n - 2) (by omega)]
    refine (HFb.out.at_ HBc.out (n - 2) (by omega) (by omega)).mono ?_
    rintro e wn ⟨ng2, A2, n2, c2, D2, d2, e2, rfl, hH2, k2, m2, hbn⟩
    have H2 := Lib.hid hH2
    clear hH2
    replace H1 := Lib.hid (H1.out.to hbn (Nat.le_refl _) hbn.size)
    have HBn := Lib.hid (HBc.out.trans (hbn.mono HBc.out.size))
    have hSn : wn.cell? ⟨g2, 0, none⟩ = some (.func (.func f1) #[] cs1) := (hbn.cell (p := ⟨g2, 0, none⟩) hg_0).trans hS
    have hgn_0 := Nat.lt_of_lt_of_le hg_0 hbn.size
    refine hK.out _ _ hSn ?_
    clear hK K hS HBc hg_0
    try simp only [zA, zB, zC, Act.put, zD, zE, zF]
    have hS := hSn
    have HBc := HBn
    have hg_0 := hgn_0
    clear hSn HBn hbn hgn_0
    obtain ⟨wc, rfl⟩ : ∃ x : World, x = wn := ⟨_, rfl⟩
    refine HT.one (i := 10) (o := _) rfl (by kernel_rfl) (by decide) (by rfl) ?_
    intro K hK
    go_simp
    refine (QCMP_any ng1 ng2 A1 A2 D1 D2 n1 c1 d1 e1 n2 c2 d2 e2 _ _ (by omega) (by omega) (by omega) (by omega) _ wc.heap.size (Nat.le_refl _) H1 H2).mono ?_
    rintro e wn ⟨rfl, hbn⟩
    clear H1 H2
    have HBn := Lib.hid (HBc.out.trans (hbn.mono HBc.out.size))
    have hSn : wn.cell? ⟨g2, 0, none⟩ = some (.func (.func f1) #[] cs1) := (hbn.cell (p := ⟨g2, 0, none⟩) hg_0).trans hS
    have hgn_0 := Nat.lt_of_lt_of_le hg_0 hbn.size
    refine hK.out _ _ hSn ?_
    clear hK K hS HBc hg_0
    try simp only [zA, zB, zC, Act.put, zD, zE, zF]
    have hS := hSn
    have HBc := HBn
    have hg_0 := hgn_0
    clear hSn HBn hbn hgn_0
    obtain ⟨wc, rfl⟩ : ∃ x : World, x = wn := ⟨_, rfl⟩
    refine HT.take (i := 11) (oi := _) (v := ?_) rfl (by kernel_rfl) (by kernel_rfl) (by decide) (fun _ _ _ h => h) (Or.inl ⟨by rfl, ?_⟩) hS ?_
    rotate_left
    · intro wz
      go_simp
      try with_reducible rfl
    simp only [zA, zB, zC, Act.put, zD, zE, zF]
    refine HT.done (by kernel_rfl) ?_
    clear hS
    simp only [List.drop_succ_cons, List.drop_zero]
    have hd5 : (cmpQ (q1 (n - 1)) (q1 (n - 2)) != 0) = !decide (q1 (n - 1) = q1 (n - 2)) := by
      by_cases h9 : q1 (n - 1) = q1 (n - 2)
      · rw [(cmpQ_zero _ _).2 h9, decide_eq_true h9]; rfl
      · have h8 : cmpQ (q1 (n - 1)) (q1 (n - 2)) ≠ 0 := fun h => h9 ((cmpQ_zero _ _).1 h)
        rw [decide_eq_false h9]; simpa using h8
    obtain ⟨b5, hb5⟩ : ∃ b5, decide (q1 (n - 1) = q1 (n - 2)) = b5 := ⟨_, rfl⟩
    rw [hd5, hb5]
    have HB5' := Lib.hid hb5
    clear hd5 hb5
    have HXb2 := Lib.hid ((HBc.out.block g2 (blk_lt HXb.out)).trans HXb.out)
    have HFb2 := Lib.hid (HFb.out.below HBc.out)
    have HOb2 := Lib.hid (HOb.out.below HBc.out)
    have HBb2 := Lib.hid (HBb.out.trans (HBc.out.mono HBb.out.size))
    go_upto_if 102 with (fail)
    go_cut [6] (fun v wx => Hid (OwnK 3 68 wx W.heap.size v (gL q1 (lastP q1 n PL))) ∧ Hid (Below W.heap.size W wx))
    case first =>
      cases b5 with
      | true =>
        have hP : Hid (lastP q1 n PL = PL) := by show _ = _; unfold lastP; rw [if_pos (of_decide_eq_true HB5'.out)]
        go_wp2_with fail
        go_meet
        rw [hP.out]
        exact ⟨HOb2.out, HBb2.out⟩
      | false =>
        have hP : Hid (lastP q1 n PL = PL ++ [n - 1]) := by show _ = _; unfold lastP; rw [if_neg (of_decide_eq_false HB5'.out)]
        go_wp2_with fail
        refine (PLAIN1_any g2 f1 cs1 DA q1 _ (n - 1) (by omega) _ HXb2 HFb2).mono ?_
        rintro e w5 ⟨rfl, hb5⟩
        rw [ptAgg_mk]
        have HBN5 := Lib.hid hb5
        have HO5 := Lib.hid (HOb2.out.below hb5)
        have HB5 := Lib.hid (HBb2.out.trans (hb5.mono HBb2.out.size))
        have hsz5 := HB5.out.size
        clear hb5
        go_wp2_with (at_builtin; refine wpList_push_pt rfl (.tmp 103) (.tmp 108) rfl W.heap.size _ _ _ (gL q1 PL) (n - 1) (txN (q1 (n - 1))) (txD (q1 (n - 1))) _ rfl rfl rfl HO5.out (by omega) hsz5 ?_; intro g9 cap9 w9 hown9 hb9 hkp9; rw [gL_snoc] at hown9; have HO9 := Lib.hid hown9; have HB9 := Lib.hid (HB5.out.trans hb9); have HK9 := Lib.hid hkp9; clear hown9 hb9 hkp9)
        go_meet
        rw [hP.out]
        exact ⟨HO9.out, HB9.out⟩
    case rest =>
    obtain ⟨HOe, HBe⟩ := hcut
    obtain ⟨PE, hPE⟩ : ∃ PE, lastP q1 n PL = PE := ⟨_, rfl⟩
    have hPEl : PE.length ≤ 200001 := by rw [← hPE]; have := lastP_len q1 n PL; omega
    have HPP : Hid (plainP q1 bs n = someP PE) := by show _ = _; rw [HPP0.out, hPE]
    rw [hPE] at HOe
    obtain ⟨we, rfl⟩ : ∃ x : World, x = wc := ⟨_, rfl⟩
    clear hPE HOb2 HBb2 HXb2 HFb2 HBc HXb HFb HOb HBb HB5'
    have HXe := Lib.hid ((HBe.out.block g2 (blk_lt HX.out)).trans HX.out)
    have HFe := Lib.hid (HF.out.below HBe.out)
    obtain ⟨A6, c6, rfl, _, _⟩ := HOe.out.form
    rw [gL_len] at HOe ⊢
    by_cases hE : PE = []
    · subst hE
      have hPP2 : Hid (plainP q1 bs n = [] ++ [0]) := by show _ = _; rw [HPP.out]; rfl
      go_wp2_with fail
      refine (PLAIN1_any g2 f1 cs1 DA q1 _ 0 (by omega) _ HXe HFe).mono ?_
      rintro e w5 ⟨rfl, hb5⟩
      rw [ptAgg_mk]
      have HBN5 := Lib.hid hb5
      have HO5 := Lib.hid (HOe.out.below hb5)
      have HB5 := Lib.hid (HBe.out.trans (hb5.mono HBe.out.size))
      have hsz5 := HB5.out.size
      clear hb5
      go_wp2_with (at_builtin; refine wpList_push_pt rfl (.tmp 113) (.tmp 116) rfl W.heap.size _ _ _ (gL q1 []) 0 (txN (q1 0)) (txD (q1 0)) _ rfl rfl rfl HO5.out (by omega) hsz5 ?_; intro g9 cap9 w9 hown9 hb9 hkp9; rw [gL_snoc] at hown9; have HO9 := Lib.hid hown9; have HB9 := Lib.hid (HB5.out.trans hb9); have HK9 := Lib.hid hkp9; clear hown9 hb9 hkp9)
      go_ret
      rw [hPP2.out]
      exact ⟨_, rfl, HO9.out.to_base HBW.out.size, HBW.out.trans (HB9.out.mono HBW.out.size)⟩
    · have hPP2 : Hid (plainP q1 bs n = PE) := by show _ = _; rw [HPP.out]; unfold someP; rw [if_neg hE]
      have hne : 0 < PE.length := List.length_pos_iff.2 hE
      have hz9 : (((PE.length : Nat) : Int) == 0) = false := by simp; omega
      clear hE
      go_wp2_with fail
      go_ret
      rw [hPP2.out]
      exact ⟨_, rfl, HOe.out.to_base HBW.out.size, HBW.out.trans (HBe.out.mono HBW.out.size)⟩
end Go.Proofs.YtkmcohnhanphdaaGreatDoor
