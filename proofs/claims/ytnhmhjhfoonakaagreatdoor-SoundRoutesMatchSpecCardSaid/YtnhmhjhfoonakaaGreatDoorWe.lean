/- times: the function value that it hands to each. -/
import Derived.Test.YtnhmhjhfoonakaaGreatDoorWd
import Derived.Test.YtnhmhjhfoonakaaGreatDoorWc
import Derived.Test.YtnhmhjhfoonakaaGreatDoorYh
import Derived.Maps.OwnSet
import Derived.Maps.OwnOps
import Derived.Maps.Views
import Derived.Carry
import Derived.Test.YtnhmhjhfoonakaaGreatDoorWb
set_option linter.unusedSimpArgs false
set_option linter.unusedVariables false
namespace Go.Dw
open Go.RowKit Go.Maps
theorem ownsMap_keep {H : Type} {w w' : World} {P : Program} {k : TypeId} {R : Value → Option (DataW H × List MemPlace)} {b n : Nat} {D : DataW H} (h : w.ownsMap P k R b n D) (hb : w'.heap[b]? = w.heap[b]?) : w'.ownsMap P k R b n D := by
  obtain ⟨es, clock, h0, r⟩ := h
  exact ⟨es, clock, hb.trans h0, r⟩
section
variable {H : Type} {P : Program} (w : World) {o : Oper} {a : Act} {K : Act → World → Prop} {Q : Exit → Act → World → Prop}
theorem wp_mapUpdate_own (m x v : Operand) (t : TypeId) (hop : o.op = Op.mapUpdate t m x v)
    (k e : TypeId) (KK : Keyed P k) (ht : P.underlying t = some (.map k e)) (R : Value → Option (DataW H × List MemPlace)) (b n : Nat) (D : DataW H)
    (hm : a.eval m = .map (some b)) (hown : w.ownsMap P k R b n D) (hn : n < maxLen) (key val : Value) (kl : Lit) (hx : a.eval x = key) (hv : a.eval v = val) (hkey : keyOf P k key = some kl)
    (d : DataW H) (ps : List MemPlace) (hval : R val = some (d, ps))
    (hK : ∀ w', w'.ownsMap P k R b (n + 1) (D.put kl d) → w.grownBy w' (some b) → K (a.put o.dst undef) w') : o.wp P a w K Q := by
  obtain ⟨w', hrun, r1, r2⟩ := hown.update KK ht hn hkey hval
  unfold Oper.wp
  simp [execOp, hop, hm, hx, hv, hrun, Result.andThen]
  exact hK w' r1 r2
theorem plainElem_bool_inv {e : TypeId} (he : P.underlying e = some .bool) {v : Value} {z : DataW H × List MemPlace} (h : plainElem P e v = some z) : ∃ x, v = .bool x ∧ z = (.lit (.bool x), []) := by
  unfold plainElem at h
  rw [he] at h
  cases v <;> simp at h
  exact ⟨_, rfl, h.symm⟩
theorem wpList_lookup_own_bool {ops : Array Oper} {rest : List Oper} (hg : o.guard = none) (m x : Operand) (t : TypeId) (hop : o.op = Op.lookup t m x false)
    (k e : TypeId) (KK : Keyed P k) (ht : P.underlying t = some (.map k e)) (he : P.underlying e = some .bool) (hz : (zeroValue e).run P w = .ok (.bool false) w) (b n : Nat) (D : DataW H)
    (hm : a.eval m = .map (some b)) (hown : w.ownsMap P k (plainElem P e) b n D) (key : Value) (kl : Lit) (hx : a.eval x = key) (hkey : keyOf P k key = some kl)
    (hK : ∀ c : Bool, D.atKey kl (.lit (.bool false)) = .lit (.bool c) → wpList P ops Q rest (a.put o.dst (.bool c)) w) : wpList P ops Q (o :: rest) a w := by
  refine wpList_plain hg fun K' hK' => ?_
  obtain ⟨v, ps, hrun, hv⟩ := hown.lookup KK ht hz (plainElem_bool he false) hkey
  obtain ⟨c, rfl, hc⟩ := plainElem_bool_inv he hv
  unfold Oper.wp
  simp [execOp, hop, hm, hx, hrun, Result.andThen]
  exact hK' _ _ (hK c (congrArg Prod.fst hc))
end
theorem i64_key {x : Int} (h : smpB x = true) : (Lit.int .i64 x).wf = true := by
  obtain ⟨h1, h2⟩ := smpB_yes h
  show (decide (IntKind.i64.min ≤ x) && decide (x ≤ IntKind.i64.max)) = true
  simp only [Bool.and_eq_true, decide_eq_true_eq]
  exact ⟨(show (-9223372036854775808 : Int) ≤ x by omega), (show x ≤ (9223372036854775807 : Int) by omega)⟩
end Go.Dw
namespace Go.Proofs.YtnhmhjhfoonakaaGreatDoor
open Go.RowKit Go.Dw Go.Maps
/-- a sample by a number, as a sample; 1 if it is clipped -/
def gnV (q : Rat) (x : Int) : Int := clipV (nearQ ((x : Rat) * q))
def gnN (q : Rat) (x : Int) : Int := clipN (nearQ ((x : Rat) * q))
def tmU (q : Rat) (s : Int × Nat) (x : Int) : Int × Nat := (s.1 + gnN q x, s.2 + 1)
theorem keyI {x : Int} (h : smpB x = true) : keyOf Tryz.prog 3 (.int .i64 x) = some (.int .i64 x) := keyOf_int_mk Tryz.underlying3 (i64_key h)
theorem zeroI (w : World) : (zeroValue 3).run Tryz.prog w = .ok (.int .i64 0) w := by kernel_rfl
theorem zeroB (w : World) : (zeroValue 4).run Tryz.prog w = .ok (.bool false) w := by kernel_rfl
/-- the captured variables: the known ones, the clipper, the number, the bad ones -/
structure TmJ (g7 gc g3 g8 bk bb B0 : Nat) (neg : Bool) (A : Option Addr) (n c : Nat) (D : Option Addr) (m d : Nat) (q : Rat) (w : World) (s : Int × Nat) : Prop where
  known : w.heap[g7]? = some (.cells #[.map (some bk)] 79 (0, 0))
  clip : w.heap[gc]? = some (.cells #[.int .i64 s.1] 65 (0, 0))
  rat : w.heap[g3]? = some (.cells #[.bool neg, .slice A n c, .slice D m d] 48 (0, 0))
  bad : w.heap[g8]? = some (.cells #[.map (some bb)] 80 (0, 0))
  val : RatAt w B0 neg A n c D m d q
  maps : ∃ D1 D2 : DataW Unit, w.ownsMap Tryz.prog 3 (plainElem (H := Unit) Tryz.prog 3) bk s.2 D1 ∧ w.ownsMap Tryz.prog 3 (plainElem (H := Unit) Tryz.prog 4) bb s.2 D2 ∧
    ∀ x, smpB x = true → Maps.has D1 (.int .i64 x) = true → D1.atKey (.int .i64 x) (.lit (.int .i64 0)) = .lit (.int .i64 (gnV q x)) ∧ D2.atKey (.int .i64 x) (.lit (.bool false)) = .lit (.bool (decide (0 < gnN q x)))
theorem TmJ.below {g7 gc g3 g8 bk bb B0 : Nat} {neg : Bool} {A : Option Addr} {n c : Nat} {D : Option Addr} {m d : Nat} {q : Rat} {w w' : World} {s : Int × Nat} {N : Nat} (h : TmJ g7 gc g3 g8 bk bb B0 neg A n c D m d q w s) (hb : Below N w w')
    (h7 : g7 < N) (hc : gc < N) (h3 : g3 < N) (h8 : g8 < N) (hk : bk < N) (hbb : bb < N) (h0 : B0 ≤ N) : TmJ g7 gc g3 g8 bk bb B0 neg A n c D m d q w' s := by
  obtain ⟨D1, D2, m1, m2, m3⟩ := h.maps
  exact ⟨(hb.block g7 h7).trans h.known, (hb.block gc hc).trans h.clip, (hb.block g3 h3).trans h.rat, (hb.block g8 h8).trans h.bad, h.val.below hb h0, D1, D2, ownsMap_keep m1 (hb.block bk hk), ownsMap_keep m2 (hb.block bb hbb), m3⟩
/-- where the captured things lie -/
structure TmD (g7 gc g3 g8 bk bb B0 lo hi : Nat) : Prop where
  c7 : gc ≠ g7
  c3 : gc ≠ g3
  c8 : gc ≠ g8
  ck : gc ≠ bk
  cb : gc ≠ bb
  k7 : bk ≠ g7
  k3 : bk ≠ g3
  k8 : bk ≠ g8
  kb : bk ≠ bb
  b7 : bb ≠ g7
  b3 : bb ≠ g3
  b8 : bb ≠ g8
  loc : lo ≤ gc
  hic : gc < hi
  lok : lo ≤ bk
  hik : bk < hi
  lob : lo ≤ bb
  hib : bb < hi
  b0 : B0 ≤ lo
set_option maxRecDepth 100000 in
set_option maxHeartbeats 4000000 in
theorem STIMES1_any (g7 gc g3 g8 bk bb B0 lo hi : Nat) (hd : Hid (TmD g7 gc g3 g8 bk bb B0 lo hi)) (neg : Bool) (A : Option Addr) (n c : Nat) (D : Option Addr) (m d : Nat) (q : Rat) (hn : n ≤ 1000000) (hm : m ≤ 1000000) (x : Int) (hx : smpB x = true) (s : Int × Nat) (hs0 : 0 ≤ s.1) (hs1 : s.1 ≤ 100000000) (hs2 : s.2 ≤ 100000000) (w : World) (hhi : hi ≤ w.heap.size)
    (hJ : Hid (TmJ g7 gc g3 g8 bk bb B0 neg A n c D m d q w s)) :
    Calls Tryz.prog 47 #[.int .i64 x, .pointer (some ⟨g7, 0, none⟩), .pointer (some ⟨gc, 0, none⟩), .pointer (some ⟨g3, 0, none⟩), .pointer (some ⟨g8, 0, none⟩)] w fun e w' =>
      e = .returned (.int .i64 (gnV q x)) ∧ TmJ g7 gc g3 g8 bk bb B0 neg A n c D m d q w' (tmU q s x) ∧ Alt lo hi w w' := by
  obtain ⟨D1, D2, m1, m2, m3⟩ := hJ.out.maps
  have M1 := Lib.hid m1
  have M2 := Lib.hid m2
  have M3 := Lib.hid m3
  have c7 := cell_of_one hJ.out.known
  have cc := cell_of_one hJ.out.clip
  have c8 := cell_of_one hJ.out.bad
  have fc := free_of_one hJ.out.clip
  obtain ⟨r0, r1, r2, _, _, _⟩ := three_cells hJ.out.rat
  have hkey := Lib.hid (keyI hx)
  have law : Keyed Tryz.prog 3 := int_keyed Tryz.underlying3
  have hgc := blk_lt hJ.out.clip
  clear m1 m2 m3
  obtain ⟨cnt, k⟩ := s
  dsimp only at M1 M2 cc hs0 hs1 hs2
  by_cases hh : Maps.has D1 (.int .i64 x) = true
  · obtain ⟨v1, v2⟩ := M3.out x hx hh
    have V1 := Lib.hid v1
    have V2 := Lib.hid v2
    clear v1 v2 r0 r1 r2
    have hnb := clipN_bd (nearQ ((x : Rat) * q))
    have HN : Hid (gnN q x = 0 ∨ gnN q x = 1) := by show _ ∨ _; unfold gnN; omega
    clear hnb
    obtain ⟨gv, hgv⟩ : ∃ gv, gnV q x = gv := ⟨_, rfl⟩
    obtain ⟨gn, hgn⟩ : ∃ gn, gnN q x = gn := ⟨_, rfl⟩
    have HGV := Lib.hid hgv
    have HGN := Lib.hid hgn
    rw [hgv] at V1
    rw [hgn] at V2 HN
    clear hgv hgn
    go_enter Tryz.func47, Tryz.ntmps47
    obtain ⟨b, hb⟩ : ∃ b, decide (0 < gn) = b := ⟨_, rfl⟩
    have HBB := Lib.hid hb
    rw [hb] at V2
    clear hb
    have hw9 := IntWalk.i64_in (cnt + 1) (by omega)
    have HT : Hid (TmJ g7 gc g3 g8 bk bb B0 neg A n c D m d q w (cnt, k + 1)) := ⟨hJ.out.known, hJ.out.clip, hJ.out.rat, hJ.out.bad, hJ.out.val, D1, D2, M1.out.mono (Nat.le_succ _), M2.out.mono (Nat.le_succ _), M3.out⟩
    cases b with
    | false =>
      go_wp2_with (first | (at_lookup; refine wpList_lookup_own_ok_int _ rfl _ _ 79 rfl 3 3 .i64 law Tryz.underlying79 Tryz.underlying3 (zeroI _) bk k D1 rfl M1.out _ _ rfl hkey.out ?_; intro c9 hat hwc; rw [V1.out] at hat; injection hat with hat; injection hat with _ hat; subst hat; clear hwc) | (at_lookup; refine wpList_lookup_own_bool _ rfl _ _ 80 rfl 3 4 law Tryz.underlying80 Tryz.underlying4 (zeroB _) bb k D2 rfl M2.out _ _ rfl hkey.out ?_; intro c9 hat; rw [V2.out] at hat; injection hat with hat; injection hat with hat; subst hat))
      go_ret
      have h0 : gn = 0 := by have h1 := of_decide_eq_false HBB.out; have := HN.out; omega
      refine ⟨by rw [HGV.out]; rfl, ?_, ⟨rfl, rfl, rfl, Nat.le_refl _, fun _ _ _ => rfl⟩⟩
      unfold tmU
      rw [HGN.out, h0, Int.add_zero]
      exact HT.out
    | true =>
      go_wp2_with (first | (at_lookup; refine wpList_lookup_own_ok_int _ rfl _ _ 79 rfl 3 3 .i64 law Tryz.underlying79 Tryz.underlying3 (zeroI _) bk k D1 rfl M1.out _ _ rfl hkey.out ?_; intro c9 hat hwc; rw [V1.out] at hat; injection hat with hat; injection hat with _ hat; subst hat; clear hwc) | (at_lookup; refine wpList_lookup_own_bool _ rfl _ _ 80 rfl 3 4 law Tryz.underlying80 Tryz.underlying4 (zeroB _) bb k D2 rfl M2.out _ _ rfl hkey.out ?_; intro c9 hat; rw [V2.out] at hat; injection hat with hat; injection hat with hat; subst hat))
      go_ret
      have h0 : gn = 1 := by have h1 := of_decide_eq_true HBB.out; have := HN.out; omega
      have hD := hd.out
      refine ⟨by rw [HGV.out]; rfl, ?_, ?_⟩
      · unfold tmU
        rw [HGN.out, h0]
        have hbk : ∀ i, i ≠ gc → (w.setCell ⟨gc, 0, none⟩ (.int .i64 (cnt + 1))).heap[i]? = w.heap[i]? := fun i hi => Below.heap_setCell _ _ _ _ (by simpa using fun e => hi e)
        exact ⟨(hbk g7 (Ne.symm hD.c7)).trans hJ.out.known, one_setCell hJ.out.clip, (hbk g3 (Ne.symm hD.c3)).trans hJ.out.rat, (hbk g8 (Ne.symm hD.c8)).trans hJ.out.bad,
          hJ.out.val.below ((Below.refl B0 w).setCell (p := ⟨gc, 0, none⟩) (by have := hD.loc; have := hD.b0; simp; omega) _) (Nat.le_refl _), D1, D2,
          ownsMap_keep (M1.out.mono (Nat.le_succ _)) (hbk bk (Ne.symm hD.ck)), ownsMap_keep (M2.out.mono (Nat.le_succ _)) (hbk bb (Ne.symm hD.cb)), M3.out⟩
      · exact ⟨rfl, rfl, rfl, by simp [World.setCell], fun i _ hc => Below.heap_setCell _ _ _ _ (by have := hD.loc; have := hD.hic; simp; omega)⟩
  · have hh' : Maps.has D1 (.int .i64 x) = false := by simpa using hh
    clear hh
    have hD := Lib.hid hd.out
    obtain ⟨gv, hgv⟩ : ∃ gv, gnV q x = gv := ⟨_, rfl⟩
    obtain ⟨gn, hgn⟩ : ∃ gn, gnN q x = gn := ⟨_, rfl⟩
    have HGV := Lib.hid hgv
    have HGN := Lib.hid hgn
    obtain ⟨hx1, hx2⟩ := smpB_yes hx
    have hnb := clipN_bd (nearQ ((x : Rat) * q))
    have HN : Hid (0 ≤ gn ∧ gn ≤ 1) := by rw [← hgn]; exact hnb
    have HS0 : Hid (TmJ g7 gc g3 g8 bk bb B0 neg A n c D m d q w (cnt, k)) := hJ
    clear hgv hgn hnb
    go_enter Tryz.func47, Tryz.ntmps47
    go_upto_region 4 with (first | (at_lookup; refine wpList_lookup_own_ok_int _ rfl _ _ 79 rfl 3 3 .i64 law Tryz.underlying79 Tryz.underlying3 (zeroI _) bk k D1 rfl M1.out _ _ rfl hkey.out ?_; intro c9 hat hwc; clear hat hwc))
    obtain ⟨X, rfl⟩ : ∃ Wx : World, Wx = w := ⟨_, rfl⟩
    refine wp_region_text 5 (fun x9 => x9.cell? ⟨g3, 0, none⟩ = some (.bool neg) ∧ x9.cell? ⟨g3, 1, none⟩ = some (.slice A n c) ∧ x9.cell? ⟨g3, 2, none⟩ = some (.slice D m d)) (by kernel_rfl) (by kernel_rfl) ?_
    have hS : X.drew.cell? ⟨g3, 0, none⟩ = some (.bool neg) ∧ X.drew.cell? ⟨g3, 1, none⟩ = some (.slice A n c) ∧ X.drew.cell? ⟨g3, 2, none⟩ = some (.slice D m d) := ⟨r0, r1, r2⟩
    have hg3 := blk_lt hJ.out.rat
    refine HT.take (i := 0) (oi := _) (v := ?_) rfl (by kernel_rfl) (by kernel_rfl) (by decide) (fun _ _ _ h => h) (Or.inl ⟨by rfl, ?_⟩) hS ?_
    rotate_left
    · intro wz
      go_simp
      try with_reducible rfl
    simp only [List.getElem_toArray, List.getElem_cons_succ, List.getElem_cons_zero, Act.put, List.setIfInBounds_toArray, List.set_cons_zero, List.set_cons_succ]
    refine HT.load (i := 2) (oi := _) (v := ?_) rfl (by kernel_rfl) (by kernel_rfl) (by decide) (fun _ _ _ h => h) (by kernel_rfl) (Or.inl ⟨by rfl, ?_⟩) hS ?_
    rotate_left
    · intro wz hwz
      try dsimp only at hwz
      go_simp
      try with_reducible rfl
    simp only [List.getElem_toArray, List.getElem_cons_succ, List.getElem_cons_zero, Act.put, List.setIfInBounds_toArray, List.set_cons_zero, List.set_cons_succ]
    refine HT.one (i := 1) (o := _) rfl (by kernel_rfl) (by decide) (by rfl) ?_
    intro K hK
    go_simp
    refine (QWHOLE_any x (by omega) (by omega) _).mono ?_
    rintro e w1 ⟨ng1, A1, n1, c1, E1, m1, d1, rfl, h1, k1, l1, hb1⟩
    replace hb1 : Below X.heap.size X w1 := below_undrew hb1
    have H1 := Lib.hid h1
    have HB1 := Lib.hid hb1
    refine hK.out _ _ (three_keep (And.intro r0 (And.intro r1 r2)) hb1 hg3 hg3 hg3) ?_
    clear hK K hS
    have hS := three_keep (And.intro r0 (And.intro r1 r2)) hb1 hg3 hg3 hg3
    try simp only [List.getElem_toArray, List.getElem_cons_succ, List.getElem_cons_zero, Act.put, List.setIfInBounds_toArray, List.set_cons_zero, List.set_cons_succ]
    clear hb1 h1
    have HV1 : Hid (RatAt w1 w1.heap.size neg A n c D m d q) := hJ.out.val.to HB1.out (by have := hD.out.b0; have := hD.out.loc; have := hD.out.hic; omega) (by have := HB1.out.size; have := hD.out.b0; have := hD.out.loc; have := hD.out.hic; omega)
    refine HT.one (i := 3) (o := _) rfl (by kernel_rfl) (by decide) (by rfl) ?_
    intro K hK
    go_simp
    refine (QMUL_any ng1 neg A1 A E1 D n1 c1 m1 d1 n c m d (x : Rat) q (by omega) (by omega) (by omega) (by omega) _ w1.heap.size (Nat.le_refl _) H1 HV1).mono ?_
    rintro e w2 ⟨ng2, A2, n2, c2, E2, m2, d2, rfl, h2, k2, l2, hb2⟩
    have H2 := Lib.hid h2
    have HB2 := Lib.hid (HB1.out.trans (hb2.mono HB1.out.size))
    refine hK.out _ _ (three_keep (And.intro r0 (And.intro r1 r2)) HB2.out hg3 hg3 hg3) ?_
    clear hK K hS
    have hS := three_keep (And.intro r0 (And.intro r1 r2)) HB2.out hg3 hg3 hg3
    try simp only [List.getElem_toArray, List.getElem_cons_succ, List.getElem_cons_zero, Act.put, List.setIfInBounds_toArray, List.set_cons_zero, List.set_cons_succ]
    clear hb2 h2
    have HCL := Lib.hid ((HB2.out.block gc hgc).trans hJ.out.clip)
    refine HT.one (i := 4) (o := _) rfl (by kernel_rfl) (by decide) (by rfl) ?_
    intro K hK
    go_simp
    refine (CNEAR_any cnt gc hs0 (by omega) ng2 A2 E2 n2 c2 m2 d2 ((x : Rat) * q).num ((x : Rat) * q).den (Rat.den_pos _) (by omega) (by omega) _ HCL w2.heap.size (Nat.le_refl _) H2).mono ?_
    rintro e w4 ⟨rfl, hc4, hg4⟩
    rw [show clipV (nearR ((x : Rat) * q).num ((x : Rat) * q).den) = gv from HGV.out]
    rw [show clipN (nearR ((x : Rat) * q).num ((x : Rat) * q).den) = gn from HGN.out] at hc4
    have HG4 := Lib.hid (grownBy_trans (grownBy_below HB2.out (some gc)) hg4)
    have HC4 := Lib.hid hc4
    have HBK : Hid (∀ i, i < X.heap.size → i ≠ gc → w4.heap[i]? = X.heap[i]?) := fun i hi hne => HG4.out.block i hi (by intro e; injection e with e; exact hne e)
    obtain ⟨r0', r1', r2', _, _, _⟩ := three_cells ((HBK.out g3 hg3 (Ne.symm hD.out.c3)).trans hJ.out.rat)
    refine hK.out _ _ ⟨r0', r1', r2'⟩ ?_
    clear hK K hS
    have hS := And.intro r0' (And.intro r1' r2')
    try simp only [List.getElem_toArray, List.getElem_cons_succ, List.getElem_cons_zero, Act.put, List.setIfInBounds_toArray, List.set_cons_zero, List.set_cons_succ]
    clear hc4 hg4 H1 H2 HV1 HB1 HB2 HCL r0 r1 r2 r0' r1' r2'
    refine HT.done (by kernel_rfl) ?_
    clear hS
    simp only [List.drop_succ_cons, List.drop_zero]
    have c7' := cell_of_one ((HBK.out g7 (blk_lt hJ.out.known) (Ne.symm hD.out.c7)).trans hJ.out.known)
    have c8' := cell_of_one ((HBK.out g8 (blk_lt hJ.out.bad) (Ne.symm hD.out.c8)).trans hJ.out.bad)
    have hM1 := M1.out
    have HM1 := Lib.hid (ownsMap_keep M1.out (HBK.out bk M1.out.lt (Ne.symm hD.out.ck)))
    have HM2 := Lib.hid (ownsMap_keep M2.out (HBK.out bb M2.out.lt (Ne.symm hD.out.cb)))
    obtain ⟨cn, hcn⟩ : ∃ cn, cnt + gn = cn := ⟨_, rfl⟩
    have HCN := Lib.hid hcn
    rw [hcn] at HC4
    have cc' := cell_of_one HC4.out
    have HLT : Hid (decide (cnt < cn) = decide (0 < gn)) := by show _ = _; rw [← hcn]; congr 1; exact propext ⟨fun h => by omega, fun h => by omega⟩
    clear hcn hM1 c7 c8 cc fc
    go_upto_region 5 with (fail)
    obtain ⟨Y, rfl⟩ : ∃ Wx : World, Wx = w4 := ⟨_, rfl⟩
    refine wp_region_text 10 (fun x9 => x9.cell? ⟨g7, 0, none⟩ = some (.map (some bk)) ∧ x9.cell? ⟨g8, 0, none⟩ = some (.map (some bb)) ∧ x9.cell? ⟨gc, 0, none⟩ = some (.int .i64 cn)) (by kernel_rfl) (by kernel_rfl) ?_
    have hS : Y.drew.cell? ⟨g7, 0, none⟩ = some (.map (some bk)) ∧ Y.drew.cell? ⟨g8, 0, none⟩ = some (.map (some bb)) ∧ Y.drew.cell? ⟨gc, 0, none⟩ = some (.int .i64 cn) := ⟨c7', c8', cc'⟩
    refine HT.load (i := 0) (oi := _) (v := ?_) rfl (by kernel_rfl) (by kernel_rfl) (by decide) (fun _ _ _ h => h) (by kernel_rfl) (Or.inl ⟨by rfl, ?_⟩) hS ?_
    rotate_left
    · intro wz hwz
      try dsimp only at hwz
      go_simp
      try with_reducible rfl
    simp only [List.getElem_toArray, List.getElem_cons_succ, List.getElem_cons_zero, Act.put, List.setIfInBounds_toArray, List.set_cons_zero, List.set_cons_succ]
    refine HT.take (i := 1) (oi := _) (v := ?_) rfl (by kernel_rfl) (by kernel_rfl) (by decide) (fun _ _ _ h => h) (Or.inl ⟨by rfl, ?_⟩) hS ?_
    rotate_left
    · intro wz
      go_simp
      try with_reducible rfl
    simp only [List.getElem_toArray, List.getElem_cons_succ, List.getElem_cons_zero, Act.put, List.setIfInBounds_toArray, List.set_cons_zero, List.set_cons_succ]
    refine HT.load (i := 2) (oi := _) (v := ?_) rfl (by kernel_rfl) (by kernel_rfl) (by decide) (fun _ _ _ h => h) (by kernel_rfl) (Or.inl ⟨by rfl, ?_⟩) hS ?_
    rotate_left
    · intro wz hwz
      try dsimp only at hwz
      go_simp
      try with_reducible rfl
    simp only [List.getElem_toArray, List.getElem_cons_succ, List.getElem_cons_zero, Act.put, List.setIfInBounds_toArray, List.set_cons_zero, List.set_cons_succ]
    refine HT.take (i := 4) (oi := _) (v := ?_) rfl (by kernel_rfl) (by kernel_rfl) (by decide) (fun _ _ _ h => h) (Or.inl ⟨by rfl, ?_⟩) hS ?_
    rotate_left
    · intro wz
      go_simp
      try with_reducible rfl
    simp only [List.getElem_toArray, List.getElem_cons_succ, List.getElem_cons_zero, Act.put, List.setIfInBounds_toArray, List.set_cons_zero, List.set_cons_succ]
    refine HT.take (i := 5) (oi := _) (v := ?_) rfl (by kernel_rfl) (by kernel_rfl) (by decide) (fun _ _ _ h => h) (Or.inl ⟨by rfl, ?_⟩) hS ?_
    rotate_left
    · intro wz
      go_simp
      try with_reducible rfl
    simp only [List.getElem_toArray, List.getElem_cons_succ, List.getElem_cons_zero, Act.put, List.setIfInBounds_toArray, List.set_cons_zero, List.set_cons_succ]
    refine HT.load (i := 6) (oi := _) (v := ?_) rfl (by kernel_rfl) (by kernel_rfl) (by decide) (fun _ _ _ h => h) (by kernel_rfl) (Or.inl ⟨by rfl, ?_⟩) hS ?_
    rotate_left
    · intro wz hwz
      try dsimp only at hwz
      go_simp
      try with_reducible rfl
    simp only [List.getElem_toArray, List.getElem_cons_succ, List.getElem_cons_zero, Act.put, List.setIfInBounds_toArray, List.set_cons_zero, List.set_cons_succ]
    refine HT.take (i := 7) (oi := _) (v := ?_) rfl (by kernel_rfl) (by kernel_rfl) (by decide) (fun _ _ _ h => h) (Or.inl ⟨by rfl, ?_⟩) hS ?_
    rotate_left
    · intro wz
      go_simp
      try with_reducible rfl
    simp only [List.getElem_toArray, List.getElem_cons_succ, List.getElem_cons_zero, Act.put, List.setIfInBounds_toArray, List.set_cons_zero, List.set_cons_succ]
    refine HT.take (i := 8) (oi := _) (v := ?_) rfl (by kernel_rfl) (by kernel_rfl) (by decide) (fun _ _ _ h => h) (Or.inl ⟨by rfl, ?_⟩) hS ?_
    rotate_left
    · intro wz
      go_simp
      try with_reducible rfl
    simp only [List.getElem_toArray, List.getElem_cons_succ, List.getElem_cons_zero, Act.put, List.setIfInBounds_toArray, List.set_cons_zero, List.set_cons_succ]
    refine HT.take (i := 3) (oi := _) (v := ?_) rfl (by kernel_rfl) (by kernel_rfl) (by decide) (fun _ _ _ h => h) (Or.inl ⟨by rfl, ?_⟩) hS ?_
    rotate_left
    · intro wz
      go_simp
      try with_reducible rfl
    simp only [List.getElem_toArray, List.getElem_cons_succ, List.getElem_cons_zero, Act.put, List.setIfInBounds_toArray, List.set_cons_zero, List.set_cons_succ]
    refine HT.one (i := 9) (o := _) rfl (by kernel_rfl) (by decide) (by rfl) ?_
    intro K hK
    have hwv : (Lit.int .i64 gv).wf = true := i64_key (by rw [← HGV.out]; exact smpB_mk (clipV_bd _).1 (clipV_bd _).2)
    refine wp_mapUpdate_own _ (.tmp 25) (.tmp 26) (.tmp 29) 79 rfl 3 3 law Tryz.underlying79 (plainElem (H := Unit) Tryz.prog 3) bk k D1 rfl HM1.out.drew (by unfold maxLen; omega) _ _ _ rfl rfl hkey.out (.lit (.int .i64 gv)) [] (plainElem_int Tryz.underlying3 hwv) ?_
    intro w5 hown5 hgr5
    have HM5 := Lib.hid hown5
    have HBK5 : Hid (∀ i, i < Y.heap.size → i ≠ bk → w5.heap[i]? = Y.heap[i]?) := fun i hi hne => hgr5.block i hi (by intro e; injection e with e; exact hne e)
    have HSZ5 : Hid (Y.heap.size ≤ w5.heap.size ∧ w5.os = Y.os ∧ w5.tape = Y.tape ∧ w5.output = Y.output) := ⟨hgr5.size, hgr5.os, hgr5.tape, hgr5.output⟩
    have hXY := HG4.out.size
    have hl7 := Nat.lt_of_lt_of_le (blk_lt hJ.out.known) hXY
    have hl8 := Nat.lt_of_lt_of_le (blk_lt hJ.out.bad) hXY
    have hlc := Nat.lt_of_lt_of_le hgc hXY
    have hlb := Nat.lt_of_lt_of_le M2.out.lt hXY
    have d7 := cell_of_one ((HBK5.out g7 hl7 (Ne.symm hD.out.k7)).trans ((HBK.out g7 (blk_lt hJ.out.known) (Ne.symm hD.out.c7)).trans hJ.out.known))
    have d8 := cell_of_one ((HBK5.out g8 hl8 (Ne.symm hD.out.k8)).trans ((HBK.out g8 (blk_lt hJ.out.bad) (Ne.symm hD.out.c8)).trans hJ.out.bad))
    have HC5 := Lib.hid ((HBK5.out gc hlc hD.out.ck).trans HC4.out)
    have dc := cell_of_one HC5.out
    have HM25 := Lib.hid (ownsMap_keep HM2.out (HBK5.out bb hlb (Ne.symm hD.out.kb)))
    refine hK.out _ _ ⟨d7, d8, dc⟩ ?_
    clear hK K hS
    have hS := And.intro d7 (And.intro d8 dc)
    try simp only [List.getElem_toArray, List.getElem_cons_succ, List.getElem_cons_zero, Act.put, List.setIfInBounds_toArray, List.set_cons_zero, List.set_cons_succ]
    clear hown5 hgr5 c7' c8' cc' d7 d8 dc
    refine HT.done (by kernel_rfl) ?_
    clear hS
    simp only [List.drop_succ_cons, List.drop_zero]
    rw [HLT.out]
    go_wp2_with (first | (at_mapUpdate; refine wpList_mapUpdate_own _ rfl _ _ _ 80 rfl 3 4 law Tryz.underlying80 (plainElem (H := Unit) Tryz.prog 4) bb k D2 rfl HM25.out (by unfold maxLen; omega) _ _ _ rfl rfl hkey.out (.lit (.bool (decide (0 < gn)))) [] (plainElem_bool Tryz.underlying4 _) ?_; intro w6 hown6 hgr6; have HM6 := Lib.hid hown6; have HG6 := Lib.hid hgr6; clear hown6 hgr6))
    go_ret
    have HBK6 : ∀ i, i < Y.heap.size → i ≠ bk → i ≠ bb → w6.heap[i]? = Y.heap[i]? := fun i hi h1 h2 => (HG6.out.block i (Nat.lt_of_lt_of_le hi HSZ5.out.1) (by intro e; injection e with e; exact h2 e)).trans (HBK5.out i hi h1)
    have hD9 := hD.out
    have hval6 : RatAt w6 B0 neg A n c D m d q := hJ.out.val.below (w' := w6) (B' := B0) ⟨HG6.out.os.trans (HSZ5.out.2.1.trans HG4.out.os), HG6.out.tape.trans (HSZ5.out.2.2.1.trans HG4.out.tape), HG6.out.output.trans (HSZ5.out.2.2.2.trans HG4.out.output), Nat.le_trans hXY (Nat.le_trans HSZ5.out.1 HG6.out.size), fun i hi => by
      have h1 := hD9.b0; have h2 := hD9.loc; have h3 := hD9.lok; have h4 := hD9.lob; have h5 := hD9.hic
      exact (HBK6 i (by omega) (by omega) (by omega)).trans (HBK.out i (by omega) (by omega))⟩ (Nat.le_refl _)
    refine ⟨by rw [HGV.out]; rfl, ?_, ?_⟩
    · unfold tmU
      rw [HGN.out]
      dsimp only
      rw [HCN.out]
      refine ⟨(HBK6 g7 hl7 (Ne.symm hD9.k7) (Ne.symm hD9.b7)).trans ((HBK.out g7 (blk_lt hJ.out.known) (Ne.symm hD9.c7)).trans hJ.out.known), (HBK6 gc hlc hD9.ck hD9.cb).trans HC4.out,
        (HBK6 g3 (Nat.lt_of_lt_of_le hg3 hXY) (Ne.symm hD9.k3) (Ne.symm hD9.b3)).trans ((HBK.out g3 hg3 (Ne.symm hD9.c3)).trans hJ.out.rat), (HBK6 g8 hl8 (Ne.symm hD9.k8) (Ne.symm hD9.b8)).trans ((HBK.out g8 (blk_lt hJ.out.bad) (Ne.symm hD9.c8)).trans hJ.out.bad),
        hval6, _, _, ownsMap_keep HM5.out (HG6.out.block bk (Nat.lt_of_lt_of_le (Nat.lt_of_lt_of_le M1.out.lt hXY) HSZ5.out.1) (by intro e; injection e with e; exact hD9.kb e)), HM6.out, fun y hy hys => ?_⟩
      have hkl := law.key hkey.out
      by_cases hyx : y = x
      · subst hyx
        rw [atKey_put_same M1.out.isMap hkl, atKey_put_same M2.out.isMap hkl, HGV.out, HGN.out]
        exact ⟨rfl, rfl⟩
      · have hne : Lit.int .i64 y ≠ Lit.int .i64 x := fun e => hyx (by injection e)
        rw [has_put_other hne] at hys
        rw [atKey_put_other hne, atKey_put_other hne]
        exact M3.out y hy hys
    · exact ⟨HG6.out.os.trans (HSZ5.out.2.1.trans HG4.out.os), HG6.out.tape.trans (HSZ5.out.2.2.1.trans HG4.out.tape), HG6.out.output.trans (HSZ5.out.2.2.2.trans HG4.out.output), Nat.le_trans hXY (Nat.le_trans HSZ5.out.1 HG6.out.size), fun i hi hc => by
        have h2 := hD9.loc; have h3 := hD9.lok; have h4 := hD9.lob; have h5 := hD9.hic; have h6 := hD9.hik; have h7 := hD9.hib
        exact (HBK6 i (by omega) (by omega) (by omega)).trans (HBK.out i hi (by omega))⟩
end Go.Proofs.YtnhmhjhfoonakaaGreatDoor

/- times: all samples multiplied by a number. -/
set_option linter.unusedSimpArgs false
set_option linter.unusedVariables false
namespace Go.Proofs.YtnhmhjhfoonakaaGreatDoor
open Go.RowKit Go.Dw Go.Maps Go.ChangeMaps Go.MapKept
attribute [local go_sem ↓] Go.wp_at_zero Go.wp_at_succ
def gnU (q : Rat) (c x : Int) : Int := c + gnN q x
theorem gnN_bd (q : Rat) (x : Int) : 0 ≤ gnN q x ∧ gnN q x ≤ 1 := clipN_bd _
theorem tm_stR (q : Rat) : ∀ (xs : List Int) (s : Int × Nat), (stR (tmU q) s xs).2 = s.2 + xs.length ∧ s.1 ≤ (stR (tmU q) s xs).1 ∧ (stR (tmU q) s xs).1 ≤ s.1 + xs.length ∧ (stR (tmU q) s xs).1 = stR (gnU q) s.1 xs
  | [], s => by simp [stR]
  | x :: xs, s => by
    have h := tm_stR q xs (tmU q s x)
    have b := gnN_bd q x
    show (stR (tmU q) (tmU q s x) xs).2 = _ ∧ _ ≤ (stR (tmU q) (tmU q s x) xs).1 ∧ (stR (tmU q) (tmU q s x) xs).1 ≤ _ ∧ (stR (tmU q) (tmU q s x) xs).1 = stR (gnU q) (gnU q s.1 x) xs
    unfold tmU at h
    unfold tmU gnU
    simp only [List.length_cons]
    dsimp only at h
    refine ⟨by omega, by omega, by omega, ?_⟩
    have := h.2.2.2
    unfold gnU at this
    exact this
theorem tm_stS (q : Rat) (m : Nat) : ∀ (xss : List (List Int)) (s : Int × Nat), (∀ t ∈ xss, t.length = m) → (stS (tmU q) s xss).2 = s.2 + xss.length * m ∧ s.1 ≤ (stS (tmU q) s xss).1 ∧ (stS (tmU q) s xss).1 ≤ s.1 + xss.length * m ∧ (stS (tmU q) s xss).1 = stS (gnU q) s.1 xss
  | [], s, _ => by simp [stS]
  | t :: ts, s, hm => by
    have h := tm_stS q m ts (stR (tmU q) s t) (fun u hu => hm u (by simp [hu]))
    have b := tm_stR q t s
    rw [hm t (by simp)] at b
    show (stS (tmU q) (stR (tmU q) s t) ts).2 = _ ∧ _ ≤ (stS (tmU q) (stR (tmU q) s t) ts).1 ∧ (stS (tmU q) (stR (tmU q) s t) ts).1 ≤ _ ∧ (stS (tmU q) (stR (tmU q) s t) ts).1 = stS (gnU q) (stR (gnU q) s.1 t) ts
    rw [← b.2.2.2]
    have e : ((ts.length + 1) * m : Nat) = ts.length * m + m := by rw [Nat.add_mul, Nat.one_mul]
    simp only [List.length_cons]
    refine ⟨by rw [e]; omega, by omega, ?_, h.2.2.2⟩
    have e2 : ((ts.length + 1 : Nat) : Int) * (m : Int) = (ts.length : Int) * m + m := by rw [Int.natCast_add, Int.add_mul]; simp
    rw [e2]
    omega
theorem tm_G (q : Rat) {r : Int} {xss : List (List Int)} (hok : OkS r xss) (k j : Nat) (hk : k < xss.length) :
    0 ≤ (stR (tmU q) (stS (tmU q) (0, 0) (xss.take k)) ((rowOf xss k).take j)).1 ∧ (stR (tmU q) (stS (tmU q) (0, 0) (xss.take k)) ((rowOf xss k).take j)).1 ≤ 100000000 ∧ (stR (tmU q) (stS (tmU q) (0, 0) (xss.take k)) ((rowOf xss k).take j)).2 ≤ 100000000 := by
  have h1 := tm_stS q (len0 xss) (xss.take k) (0, 0) (fun t ht => (hok.rows t (List.mem_of_mem_take ht)).1)
  have h2 := tm_stR q ((rowOf xss k).take j) (stS (tmU q) (0, 0) (xss.take k))
  have h3 := (hok.row hk).1
  have h4 := hok.few
  have h5 := hok.long
  have h6 : ((rowOf xss k).take j).length ≤ 100000 := by simp; omega
  have h7 : (xss.take k).length * len0 xss ≤ 16 * 100000 := Nat.mul_le_mul (by simp; omega) h5
  have h8 : ((xss.take k).length : Int) * (len0 xss : Int) = ((xss.take k).length * len0 xss : Nat) := by simp
  dsimp only at h1
  rw [h8] at h1
  omega
/-- a map in a box of its own -/
theorem mapbox_new (w : World) (T : TypeId) : ∃ W gk, W = (w.alloc (.map #[] 0)).alloc (.cells #[.map (some w.heap.size)] T) ∧ gk = w.heap.size ∧
    Hid (W.heap[gk]? = some (.map #[] 0) ∧ W.heap[gk + 1]? = some (.cells #[.map (some gk)] T (0, 0)) ∧ Below w.heap.size w W ∧ W.heap.size = w.heap.size + 2) := by
  refine ⟨_, _, rfl, rfl, ⟨?_, ?_, ?_, ?_⟩⟩
  · rw [Below.heap_alloc _ _ _ (by simp)]
    exact heap_alloc_new _ _
  · have h := heap_alloc_new (w.alloc (.map #[] 0)) (.cells #[.map (some w.heap.size)] T)
    rw [World.size_alloc] at h
    exact h
  · exact ((Below.refl _ w).alloc (Nat.le_refl _) _).alloc (by simp) _
  · simp
set_option maxRecDepth 100000 in
set_option maxHeartbeats 4000000 in
theorem STIMES_ok (r : Int) (ad : Addr) (n c : Nat) (xss : List (List Int)) (hok : Hid (OkS r xss)) (neg : Bool) (A : Option Addr) (n' c' : Nat) (D : Option Addr) (m d : Nat) (q : Rat) (hn : n' ≤ 1000000) (hm : m ≤ 1000000) (w : World) (B : Nat) (hB : B ≤ w.heap.size) (hh : Hid (RowsAt w B (some ad) n xss)) (hv : Hid (RatAt w B neg A n' c' D m d q)) :
    Calls Tryz.prog 16 #[.agg #[.int .i64 r, .slice (some ad) n c], .agg #[.bool neg, .slice A n' c', .slice D m d]] w (OutS w r (xss.map (List.map (gnV q))) (stS (gnU q) 0 xss)) := by
  have hmm := @run_makeMap Tryz.prog
  obtain ⟨W0, gx, hW, hgx, HHW, HBX, HSW⟩ := boxes3 w (.cells #[.int .i64 r, .slice (some ad) n c] 24) (.cells #[.bool neg, .slice A n' c', .slice D m d] 48) (.cells #[.int .i64 0, .slice none 0 0] 24)
  have HGX := Lib.hid hgx
  go_enter Tryz.func16, Tryz.ntmps16
  go_upto_region 1 with (fail)
  rw [← hW, ← hgx]
  clear hW hgx
  go_upto_region 2 with (fail)
  obtain ⟨W1, gc, hW1, hgc, HH1, HB1, HS1⟩ := cell_new W0 65 #[.int .i64 0]
  rw [← hW1, ← hgc]
  have HGC := Lib.hid hgc
  clear hW1 hgc
  go_upto_region 3 with (fail)
  obtain ⟨W2, gk, hW2, hgk, HK⟩ := mapbox_new W1 79
  rw [← hW2, ← hgk]
  have HGK := Lib.hid hgk
  clear hW2 hgk
  go_upto_region 4 with (fail)
  obtain ⟨W3, gb, hW3, hgb, HKB⟩ := mapbox_new W2 80
  rw [← hW3, ← hgb]
  have HGB := Lib.hid hgb
  clear hW3 hgb hmm
  have hx0 := HGX.out
  have hx1 := HSW.out
  have hx2 := HGC.out
  have hx3 := HS1.out
  have hx4 := HGK.out
  have hx5 := HK.out.2.2.2
  have hx6 := HGB.out
  have hx7 := HKB.out.2.2.2
  have hb3 : Below W0.heap.size W0 W3 := HB1.out.trans ((HK.out.2.2.1.mono (by omega)).trans (HKB.out.2.2.1.mono (by omega)))
  have hb13 : Below W1.heap.size W1 W3 := HK.out.2.2.1.trans (HKB.out.2.2.1.mono (by omega))
  have HBW := Lib.hid (HBX.out.trans (hb3.mono (by omega)))
  have HHS := Lib.hid ((hb3.block gx (by omega)).trans HHW.out.1)
  have HHR := Lib.hid ((hb3.block (gx + 1 + 1) (by omega)).trans HHW.out.2.2)
  have HJ0 : Hid (TmJ (gk + 1) gc (gx + 1) (gb + 1) gk gb B neg A n' c' D m d q W3 (0, 0)) := by
    refine ⟨(HKB.out.2.2.1.block (gk + 1) (by omega)).trans HK.out.2.1, (hb13.block gc (by omega)).trans HH1.out, (hb3.block (gx + 1) (by omega)).trans HHW.out.2.1, HKB.out.2.1,
      hv.out.below HBW.out (by omega), .map [], .map [], ⟨#[], 0, (HKB.out.2.2.1.block gk (by omega)).trans HK.out.1, ⟨by simp, stamped_empty 0, by simp⟩, Nat.le_refl _, rfl⟩, ⟨#[], 0, HKB.out.1, ⟨by simp, stamped_empty 0, by simp⟩, Nat.le_refl _, rfl⟩, fun x _ hx => ?_⟩
    simp [Maps.has] at hx
  have HD : Hid (TmD (gk + 1) gc (gx + 1) (gb + 1) gk gb B gc (gb + 2)) := by
    constructor <;> omega
  have HRW := Lib.hid (hh.out.below HBW.out (by omega))
  have hsz : w.heap.size + 8 = W3.heap.size := by omega
  have hgl : gb + 2 ≤ W3.heap.size := by omega
  have hlo : B ≤ gc := by omega
  have hBW : B ≤ W3.heap.size := by omega
  obtain ⟨x0, x1, _, _⟩ := two_cells HHS.out
  have HX2 : Hid (gx + 1 + 1 < W3.heap.size ∧ gx + 1 + 1 < gc ∧ w.heap.size ≤ gx + 1 + 1) := ⟨by omega, by omega, by omega⟩
  have HST : Hid (∀ w1 w2 s, TmJ (gk + 1) gc (gx + 1) (gb + 1) gk gb B neg A n' c' D m d q w1 s → Below W3.heap.size w1 w2 → TmJ (gk + 1) gc (gx + 1) (gb + 1) gk gb B neg A n' c' D m d q w2 s) := fun w1 w2 s h hb => h.below hb (by omega) (by omega) (by omega) (by omega) (by omega) (by omega) hBW
  clear hx0 hx1 hx2 hx3 hx4 hx5 hx6 hx7 hb3 hb13 HHW HBX HSW HH1 HB1 HS1 HK HKB hh hv
  go_wp2_with fail
  refine (EACHB_any (TmJ (gk + 1) gc (gx + 1) (gb + 1) gk gb B neg A n' c' D m d q) (fun s => 0 ≤ s.1 ∧ s.1 ≤ 100000000 ∧ s.2 ≤ 100000000) (gnV q) (tmU q) (0, 0) 47 #[.pointer (some ⟨gk + 1, 0, none⟩), .pointer (some ⟨gc, 0, none⟩), .pointer (some ⟨gx + 1, 0, none⟩), .pointer (some ⟨gb + 1, 0, none⟩)] gc (gb + 2) r ad n c xss hok W3 B hBW HRW hlo hgl (fun k j hk _ => tm_G q hok.out k j hk) HJ0 HST (fun _ _ => rfl) (fun x s w1 hx hs hJ => ?_)).mono ?_
  · exact STIMES1_any (gk + 1) gc (gx + 1) (gb + 1) gk gb B gc (gb + 2) HD neg A n' c' D m d q hn hm x hx s hs.1 hs.2.1 hs.2.2 w1 (by have := blk_lt hJ.bad; omega) hJ
  rintro e w5 ⟨⟨v5, rfl, ho5⟩, hJ5, hA5⟩
  obtain ⟨A5, c5, rfl, _, _⟩ := ho5.form
  have hs5 := hA5.size
  have HB5 := Lib.hid (HBW.out.trans (hA5.below (by omega) (by have := HX2.out; omega)))
  have hr := (hA5.block (gx + 1 + 1) HX2.out.1 (.inl HX2.out.2.1)).trans HHR.out
  obtain ⟨hr0, hr1, hf0, hf1⟩ := two_cells hr
  have hcc := cell_of_one hJ5.clip
  have hts := (tm_stS q (len0 xss) xss (0, 0) (fun t ht => (hok.out.rows t ht).1)).2.2.2
  dsimp only at hts
  rw [hts] at hcc
  have hl8 := Nat.lt_of_lt_of_le HX2.out.1 hs5
  have hl9 : gc < w5.heap.size := blk_lt hJ5.clip
  obtain ⟨cnt, hcnt⟩ : ∃ cnt, stS (gnU q) 0 xss = cnt := ⟨_, rfl⟩
  rw [hcnt] at hcc
  have Hcnt := Lib.hid hcnt
  have hne1 : ¬ gc = gx + 1 + 1 := by have := HX2.out; omega
  have hne2 : ¬ gx + 1 + 1 = gc := by have := HX2.out; omega
  obtain ⟨g2, hg2⟩ : ∃ g2, g2 = gx + 1 + 1 := ⟨_, rfl⟩
  rw [← hg2] at hr0 hr1 hf0 hf1 hl8 hne1 hne2 ⊢
  have HG2 : Hid (w.heap.size ≤ g2) := by show _ ≤ _; have := HX2.out; omega
  have hg2l : g2 < W3.heap.size := by have := HX2.out; omega
  clear hJ5 hA5 hts hcnt x0 x1 hr hg2
  go_wp2_with fail
  go_region
  go_wp2_with fail
  have HS := two_set w5 g2 _ _ (.int .i64 r) (.slice A5 xss.length c5) hr0 hr1
  obtain ⟨rows, hL⟩ := ho5
  simp only [List.length_map] at hL
  have hg2w := HG2.out
  have hsz9 := hsz
  refine fin_snd2 rfl rfl rfl ((World.cell?_alloc_lt _ _ _ (by simp; omega)).trans HS.1) ((World.cell?_alloc_lt _ _ _ (by simp; omega)).trans HS.2) ?_
  rw [Hcnt.out]
  refine ⟨_, rfl, ⟨rows, ?_⟩, ((set2_below HB5.out hg2w).alloc (by simp; omega) _).drew⟩
  exact ((((hL.set_below (p := ⟨g2, 0, none⟩) (by simp; omega) _).set_below (p := ⟨g2, 1, none⟩) (by simp; omega) _).alloc _).drew.base (by omega))
end Go.Proofs.YtnhmhjhfoonakaaGreatDoor
