/- Bytes: the plain words, and the form of a sound. -/
import Derived.Test.YtlnjildkdmeflaaDoorYno
import Derived.Test.YtlnjildkdmeflaaDoorPack2
import Derived.Test.YtlnjildkdmeflaaDoorCks
import Derived.Test.YtlnjildkdmeflaaDoorChunk1
import Derived.Test.YtlnjildkdmeflaaDoorRegion2
set_option linter.unusedSimpArgs false
set_option linter.unusedVariables false
namespace Go.Proofs.YtlnjildkdmeflaaDoor
open Go.RowKit Go.Dw
def noteX (n : Nx) : Int := noteS n.1.data.toList n.2.data.toList
def isIn (pre : List Nx) (nm : By) : Bool := pre.any fun m => decide (m.1.data.toList = nm)
/-- the fault of the first note that is not right -/
def notesF (pre : List Nx) : List Nx → Int
  | [] => 0
  | n :: t => if noteX n ≠ 0 then noteX n else if isIn pre n.1.data.toList = true then 7 else notesF (pre ++ [n]) t
def formB (r : Int) (n : Nat) (bits : Int) (m : Nat) : By := ((leZ r 4 ++ leZ n 2) ++ leZ bits 2) ++ leZ m 4
def noteC (n : Nx) : Ck := ([110, 111, 116, 101], (n.1.data.toList ++ [0]) ++ n.2.data.toList)
/-- one sample's bytes -/
def smpC (bits x : Int) : By := leZ (x / 2 ^ (24 - bits).toNat) (bits / 8).toNat
def colB (bits : Int) (xss : List (List Int)) (i : Nat) : By := xss.flatMap fun l => smpC bits (elOf l i)
def dataB (bits : Int) (xss : List (List Int)) (k : Nat) : By := (List.range k).flatMap (colB bits xss)
def evenB (xss : List (List Int)) : Bool := xss.all fun l => l.all fun x => decide (x % 256 = 0)
def cksB (r : Int) (xss : List (List Int)) (bits : Int) (l : List Nx) : List Ck := (([102, 111, 114, 109], formB r xss.length bits (len0 xss)) :: l.map noteC) ++ [([100, 97, 116, 97], dataB bits xss (len0 xss))]
def bytesS (r : Int) (xss : List (List Int)) (bits : Int) (l : List Nx) : By × Int :=
  if chkS r xss ≠ 0 then ([], chkS r xss) else if bits ≠ 16 ∧ bits ≠ 24 then ([], 1) else if bits = 16 ∧ evenB xss = false then ([], 3) else if 50 < l.length then ([], 2) else if notesF [] l ≠ 0 then ([], notesF [] l) else packS (cksB r xss bits l)
set_option maxHeartbeats 1600000 in
theorem RLITTLEZ_any (x : Int) (m : Nat) (hx1 : -9223372036854775808 ≤ x) (hx2 : x ≤ 9223372036854775807) (hm : m ≤ 4) (w : World) :
    Calls Tryd.prog 21 #[.int .i64 x, .int .i64 m] w fun e w' => ∃ v, e = .returned v ∧ OwnBys w' w.heap.size v (leZ x m) ∧ Below w.heap.size w w' := by
  go_enter Tryd.func21, Tryd.ntmps21
  go_wp2_with fail
  go_loopw [5, 6] (fun v i wr => ∃ k : Nat, k ≤ m ∧ i = .int .i64 k ∧ Hid (OwnBys wr w.heap.size v (leZ x k)) ∧ Hid (Below w.heap.size w wr)) (fun _ i _ => m - (intOf i).toNat)
  case atStart => exact ⟨0, Nat.zero_le _, rfl, World.ownsRow_nil _ _ _ _, Below.refl _ _⟩
  case round =>
    obtain ⟨k, hk, rfl, hO, hS⟩ := hrel
    obtain ⟨A5, c5, rfl, hcc1, hcc2⟩ := own_form hO.out
    by_cases hlt : k < m
    · have hkI : (k : Int) < (m : Int) := by omega
      have hk0 : (0 : Int) ≤ 8 * (k : Int) := by omega
      have hsz : w.heap.size ≤ wr.heap.size := hS.out.size
      have HLL := Lib.hid (leZ_length x k)
      have HN : Hid (leZ x k ++ [byteZ (x / 2 ^ (8 * k))] = leZ x (k + 1)) := by rw [← shZ_pow]; exact (leZ_snoc k x).symm
      obtain ⟨acc, ha⟩ : ∃ acc, leZ x k = acc := ⟨_, rfl⟩
      rw [ha] at hO HLL HN ⊢
      obtain ⟨L, hL⟩ : ∃ L, List.length acc = L := ⟨_, rfl⟩
      rw [hL] at hO HLL ⊢
      have hle : L ≤ 140737488355327 := by have := HLL.out; omega
      clear hcc1 hcc2 ha hL
      go_wp2_with (with_reducible refine wpList_push_byte rfl (.tmp 12) (.tmp 18) rfl w.heap.size A5 L c5 acc (x / 2 ^ (8 * k) % 256) (byteZ (x / 2 ^ (8 * k))) (byteZ_toNat _).symm wr.heap.size rfl rfl rfl hO.out hle hsz ?_; intro g5 cap5 w5 hown5 hb5; have HO5 := Lib.hid hown5; rw [HN.out] at HO5; have HB5 := Lib.hid (hS.out.trans (hb5.below hsz (fun k hk => (own_lt_by hO.out k hk).1))); clear hown5 hb5)
      go_roundw
      case rel => exact ⟨k + 1, by omega, by go_num, HO5, HB5⟩
      case measure => simp [intOf]; omega
    · obtain rfl : k = m := by omega
      go_wp2_with fail
      go_ret
      exact ⟨_, rfl, hO.out, hS.out⟩
theorem res_ck1 {fn : Func} {p : Tmp} (h : fn.results = #[.cell p 42]) {tmps : Array Value} {w : World} {g : Nat} {v0 v1 : Value} (hp : tmps.getD p undef = .pointer (some ⟨g, 0, none⟩))
    (h0 : w.cell? ⟨g, 0, none⟩ = some v0) (h1 : w.cell? ⟨g, 1, none⟩ = some v1) : (results fn tmps).run Tryd.prog w = .ok (.agg #[v0, v1]) w := by
  have hp' : tmps[p]?.getD undef = .pointer (some ⟨g, 0, none⟩) := by simpa using hp
  simp [results, h, hp', asAddr, load_ck w g v0 v1 h0 h1]
theorem end_ck1 {fn : Func} {R : Ending → World → Prop} {a : Act} {w : World} {p : Tmp} {g : Nat} {v0 v1 o0 o1 : Value} (h : fn.results = #[.cell p 42]) (hp : a.tmps.getD p undef = .pointer (some ⟨g, 0, none⟩)) (hd : a.defers = []) (c0 : w.cell? ⟨g, 0, none⟩ = some o0) (c1 : w.cell? ⟨g, 1, none⟩ = some o1)
    (hR : R (.returned (.agg #[v0, v1])) ((w.setCell ⟨g, 0, none⟩ v0).setCell ⟨g, 1, none⟩ v1)) : bodyPost Tryd.prog fn R .ret a ((w.setCell ⟨g, 0, none⟩ v0).setCell ⟨g, 1, none⟩ v1) :=
  bodyPost_ret (res_ck1 h hp (two_set w g o0 o1 v0 v1 c0 c1).1 (two_set w g o0 o1 v0 v1 c0 c1).2) hd hR
theorem two_boxes (w : World) (o1 o2 : Obj) : ∃ W gx, W = (w.alloc o1).alloc o2 ∧ gx = w.heap.size ∧ Hid (W.heap[gx]? = some o1 ∧ W.heap[gx + 1]? = some o2) ∧ Hid (Below w.heap.size w W) ∧ Hid (W.heap.size = w.heap.size + 2) := by
  refine ⟨_, _, rfl, rfl, ⟨?_, ?_⟩, ?_, ?_⟩
  · rw [Below.heap_alloc _ _ _ (by simp)]
    exact heap_alloc_new _ _
  · have := heap_alloc_new (w.alloc o1) o2
    rwa [World.size_alloc] at this
  · exact ((Below.refl _ _).alloc (Nat.le_refl _) _).alloc (by simp) _
  · show _ = _; simp
theorem cells2 {w : World} {g : Nat} {v0 v1 : Value} {T : TypeId} (h : w.heap[g]? = some (.cells #[v0, v1] T (0, 0))) : w.cell? ⟨g, 0, none⟩ = some v0 ∧ w.cell? ⟨g, 1, none⟩ = some v1 ∧ w.frozen? ⟨g, 0, none⟩ = false ∧ w.frozen? ⟨g, 1, none⟩ = false := by
  refine ⟨?_, ?_, frozen_of_row w g 0 _ _ h, frozen_of_row w g 1 _ _ h⟩
  · rw [own_cell1 h 0]; rfl
  · rw [own_cell1 h 1]; rfl
set_option maxRecDepth 100000 in
set_option maxHeartbeats 4000000 in
theorem FORM_any (r bits : Int) (hb1 : 0 ≤ bits) (hb2 : bits ≤ 24) (ad : Addr) (n c : Nat) (xss : List (List Int)) (hok : Hid (OkS r xss)) (w : World) (B : Nat) (hB : B ≤ w.heap.size) (hh : Hid (RowsAt w B (some ad) n xss)) :
    Calls Tryd.prog 14 #[.agg #[.int .i64 r, .slice (some ad) n c], .int .i64 bits] w fun e w' => ∃ v, e = .returned (.agg #[.string ⟨#[102, 111, 114, 109]⟩, v]) ∧ OwnBys w' w.heap.size v (formB r n bits (len0 xss)) ∧ Below w.heap.size w w' := by
  have hl := Lib.hid hh.out.1
  have hn16 : n ≤ 16 := by have := hok.out.few; have := hl.out; omega
  have hn0 : 0 < n := by have := hok.out.some; have := hl.out; omega
  have hm := hok.out.long
  have hr : 1 ≤ r ∧ r ≤ 1000000 := by have := hok.out.rate; simpa [rateB] using this
  obtain ⟨hr1, hr2⟩ := hr
  obtain ⟨m, hm9⟩ : ∃ m, len0 xss = m := ⟨_, rfl⟩
  have HM := Lib.hid hm9
  rw [hm9] at hm ⊢
  clear hm9
  obtain ⟨W, gx, hW, hgx, HH, HB, HSW⟩ := two_boxes w (.cells #[.int .i64 r, .slice (some ad) n c] 24) (.cells #[.string ⟨#[]⟩, .slice none 0 0] 42)
  obtain ⟨x0, x1, _, _⟩ := cells2 HH.out.1
  have hgx1 := blk_lt HH.out.2
  have hgw : w.heap.size ≤ gx := by rw [hgx]; exact Nat.le_refl _
  have HSS : Hid (∀ x9 : World, Below W.heap.size W x9 → x9.cell? ⟨gx, 0, none⟩ = some (.int .i64 r) ∧ x9.cell? ⟨gx, 1, none⟩ = some (.slice (some ad) n c)) := fun x9 hb9 => ⟨(hb9.cell (p := ⟨gx, 0, none⟩) (by dsimp only; omega)).trans x0, (hb9.cell (p := ⟨gx, 1, none⟩) (by dsimp only; omega)).trans x1⟩
  go_enter Tryd.func14, Tryd.ntmps14
  go_upto_region 1 with fail
  rw [← hW, ← hgx]
  clear hW hgx x0 x1
  refine wp_region_text 13 (fun x9 => x9.cell? ⟨gx, 0, none⟩ = some (.int .i64 r) ∧ x9.cell? ⟨gx, 1, none⟩ = some (.slice (some ad) n c)) (by kernel_rfl) (by kernel_rfl) ?_
  have HB0 : Hid (Below W.heap.size W W.drew) := (Below.refl _ _).drew
  have HO0 : Hid (OwnBys W.drew W.heap.size (.slice none 0 0) []) := World.ownsRow_nil _ _ _ _
  have hS := HSS.out W.drew HB0.out
  refine HT.take (i := 0) (oi := _) (v := ?_) rfl (by kernel_rfl) (by kernel_rfl) (by decide) (fun _ _ _ h => h) (Or.inl ⟨by rfl, ?_⟩) hS ?_
  rotate_left
  · intro wz
    go_simp
    try with_reducible rfl
  simp only [List.getElem_toArray, List.getElem_cons_succ, List.getElem_cons_zero, Act.put, List.setIfInBounds_toArray, List.set_cons_zero, List.set_cons_succ]
  refine HT.load (i := 1) (oi := _) (v := ?_) rfl (by kernel_rfl) (by kernel_rfl) (by decide) (fun _ _ _ h => h) (by kernel_rfl) (Or.inl ⟨by rfl, ?_⟩) hS ?_
  rotate_left
  · intro wz hwz
    try dsimp only at hwz
    go_simp
    try with_reducible rfl
  simp only [List.getElem_toArray, List.getElem_cons_succ, List.getElem_cons_zero, Act.put, List.setIfInBounds_toArray, List.set_cons_zero, List.set_cons_succ]
  refine HT.take (i := 3) (oi := _) (v := ?_) rfl (by kernel_rfl) (by kernel_rfl) (by decide) (fun _ _ _ h => h) (Or.inl ⟨by rfl, ?_⟩) hS ?_
  rotate_left
  · intro wz
    go_simp
    try with_reducible rfl
  simp only [List.getElem_toArray, List.getElem_cons_succ, List.getElem_cons_zero, Act.put, List.setIfInBounds_toArray, List.set_cons_zero, List.set_cons_succ]
  refine HT.load (i := 4) (oi := _) (v := ?_) rfl (by kernel_rfl) (by kernel_rfl) (by decide) (fun _ _ _ h => h) (by kernel_rfl) (Or.inl ⟨by rfl, ?_⟩) hS ?_
  rotate_left
  · intro wz hwz
    try dsimp only at hwz
    go_simp
    try with_reducible rfl
  simp only [List.getElem_toArray, List.getElem_cons_succ, List.getElem_cons_zero, Act.put, List.setIfInBounds_toArray, List.set_cons_zero, List.set_cons_succ]
  refine HT.take (i := 5) (oi := _) (v := ?_) rfl (by kernel_rfl) (by kernel_rfl) (by decide) (fun _ _ _ h => h) (Or.inl ⟨by rfl, ?_⟩) hS ?_
  rotate_left
  · intro wz
    go_simp
    try with_reducible rfl
  simp only [List.getElem_toArray, List.getElem_cons_succ, List.getElem_cons_zero, Act.put, List.setIfInBounds_toArray, List.set_cons_zero, List.set_cons_succ]
  refine HT.take (i := 7) (oi := _) (v := ?_) rfl (by kernel_rfl) (by kernel_rfl) (by decide) (fun _ _ _ h => h) (Or.inl ⟨by rfl, ?_⟩) hS ?_
  rotate_left
  · intro wz
    go_simp
    try with_reducible rfl
  simp only [List.getElem_toArray, List.getElem_cons_succ, List.getElem_cons_zero, Act.put, List.setIfInBounds_toArray, List.set_cons_zero, List.set_cons_succ]
  refine HT.load (i := 9) (oi := _) (v := ?_) rfl (by kernel_rfl) (by kernel_rfl) (by decide) (fun _ _ _ h => h) (by kernel_rfl) (Or.inl ⟨by rfl, ?_⟩) hS ?_
  rotate_left
  · intro wz hwz
    try dsimp only at hwz
    go_simp
    try with_reducible rfl
  simp only [List.getElem_toArray, List.getElem_cons_succ, List.getElem_cons_zero, Act.put, List.setIfInBounds_toArray, List.set_cons_zero, List.set_cons_succ]
  refine HT.one (i := 2) (o := _) rfl (by kernel_rfl) (by decide) (by rfl) ?_
  intro K hK
  go_simp
  refine (PUT_any W.heap.size none 0 0 [] r 4 (by omega) (by omega) (by omega) (by omega) _ HB0.out.size HO0).mono ?_
  rintro e w1 ⟨A1, n1, c1, rfl, ho1, hg1⟩
  rw [List.nil_append] at ho1
  have hn1 : n1 ≤ 100 := by have := own_len_by ho1; rw [leZ_length] at this; omega
  have HB1 := Lib.hid (HB0.out.trans (hg1.below HB0.out.size (fun k hk => (own_lt_by HO0.out k hk).1)))
  have HO1 := Lib.hid ho1
  have hS9 := HSS.out _ HB1.out
  refine hK.out _ _ hS9 ?_
  clear hK K hS ho1 hg1
  have hS := hS9
  clear hS9
  try simp only [List.getElem_toArray, List.getElem_cons_succ, List.getElem_cons_zero, Act.put, List.setIfInBounds_toArray, List.set_cons_zero, List.set_cons_succ]
  refine HT.one (i := 6) (o := _) rfl (by kernel_rfl) (by decide) (by rfl) ?_
  intro K hK
  go_simp
  refine (PUT_any W.heap.size A1 n1 c1 _ (n : Int) 2 (by omega) (by omega) (by omega) (by omega) _ HB1.out.size HO1).mono ?_
  rintro e w2 ⟨A2, n2, c2, rfl, ho2, hg2⟩
  have hn2 : n2 ≤ 100 := by have := own_len_by ho2; simp only [List.length_append, leZ_length] at this; omega
  have HB2 := Lib.hid (HB1.out.trans (hg2.below HB1.out.size (fun k hk => (own_lt_by HO1.out k hk).1)))
  have HO2 := Lib.hid ho2
  have hS9 := HSS.out _ HB2.out
  refine hK.out _ _ hS9 ?_
  clear hK K hS ho2 hg2
  have hS := hS9
  clear hS9
  try simp only [List.getElem_toArray, List.getElem_cons_succ, List.getElem_cons_zero, Act.put, List.setIfInBounds_toArray, List.set_cons_zero, List.set_cons_succ]
  refine HT.one (i := 8) (o := _) rfl (by kernel_rfl) (by decide) (by rfl) ?_
  intro K hK
  go_simp
  refine (PUT_any W.heap.size A2 n2 c2 _ bits 2 (by omega) (by omega) (by omega) (by omega) _ HB2.out.size HO2).mono ?_
  rintro e w3 ⟨A3, n3, c3, rfl, ho3, hg3⟩
  have hn3 : n3 ≤ 100 := by have := own_len_by ho3; simp only [List.length_append, leZ_length] at this; omega
  have HB3 := Lib.hid (HB2.out.trans (hg3.below HB2.out.size (fun k hk => (own_lt_by HO2.out k hk).1)))
  have HO3 := Lib.hid ho3
  have hS9 := HSS.out _ HB3.out
  refine hK.out _ _ hS9 ?_
  clear hK K hS ho3 hg3
  have hS := hS9
  clear hS9
  try simp only [List.getElem_toArray, List.getElem_cons_succ, List.getElem_cons_zero, Act.put, List.setIfInBounds_toArray, List.set_cons_zero, List.set_cons_succ]
  refine HT.one (i := 10) (o := _) rfl (by kernel_rfl) (by decide) (by rfl) ?_
  intro K hK
  go_simp
  have hBW : B ≤ W.heap.size := Nat.le_trans hB HB.out.size
  refine (LENGTH_any r (some ad) n c xss _ B (Nat.le_trans hBW HB3.out.size) (hh.out.below ((HB.out.mono hB).trans (HB3.out.mono hBW)) (Nat.le_refl _)) hn0).mono ?_
  rw [HM.out]
  rintro e w4 ⟨rfl, hb4⟩
  have HB4 := Lib.hid (HB3.out.trans (hb4.mono HB3.out.size))
  have HO4 := Lib.hid (HO3.out.below hb4)
  have hS9 := HSS.out _ HB4.out
  refine hK.out _ _ hS9 ?_
  clear hK K hS hb4
  have hS := hS9
  clear hS9
  try simp only [List.getElem_toArray, List.getElem_cons_succ, List.getElem_cons_zero, Act.put, List.setIfInBounds_toArray, List.set_cons_zero, List.set_cons_succ]
  refine HT.one (i := 11) (o := _) rfl (by kernel_rfl) (by decide) (by rfl) ?_
  intro K hK
  go_simp
  refine (PUT_any W.heap.size A3 n3 c3 _ (m : Int) 4 (by omega) (by omega) (by omega) (by omega) _ HB4.out.size HO4).mono ?_
  rintro e w5 ⟨A5, n5, c5, rfl, ho5, hg5⟩
  have HB5 := Lib.hid (HB4.out.trans (hg5.below HB4.out.size (fun k hk => (own_lt_by HO4.out k hk).1)))
  have HO5 := Lib.hid ho5
  have hS9 := HSS.out _ HB5.out
  refine hK.out _ _ hS9 ?_
  clear hK K hS ho5 hg5
  have hS := hS9
  clear hS9
  try simp only [List.getElem_toArray, List.getElem_cons_succ, List.getElem_cons_zero, Act.put, List.setIfInBounds_toArray, List.set_cons_zero, List.set_cons_succ]
  refine HT.take (i := 12) (oi := _) (v := ?_) rfl (by kernel_rfl) (by kernel_rfl) (by decide) (fun _ _ _ h => h) (Or.inl ⟨by rfl, ?_⟩) hS ?_
  rotate_left
  · intro wz
    go_simp
    try with_reducible rfl
  simp only [List.getElem_toArray, List.getElem_cons_succ, List.getElem_cons_zero, Act.put, List.setIfInBounds_toArray, List.set_cons_zero, List.set_cons_succ]
  refine HT.done (by kernel_rfl) ?_
  clear hS
  simp only [List.drop_succ_cons, List.drop_zero]
  have HG5 := Lib.hid ((HB5.out.block (gx + 1) hgx1).trans HH.out.2)
  obtain ⟨z0, z1, z2, z3⟩ := cells2 HG5.out
  go_wp2_with fail
  refine end_ck1 rfl rfl rfl z0 z1 ?_
  refine ⟨_, rfl, ?_, ?_⟩
  · have hne : (Value.slice A5 n5 c5).ownBlock ≠ some (gx + 1) := fun e => by have := (own_lt HO5.out e).1; omega
    exact own_base (own_far (p := ⟨gx + 1, 1, none⟩) (own_far (p := ⟨gx + 1, 0, none⟩) HO5.out (.inr hne) _) (.inr hne) _) HB.out.size
  · exact (((HB.out.trans (HB5.out.mono HB.out.size)).setCell (p := ⟨gx + 1, 0, none⟩) (by dsimp only; omega) _).setCell (p := ⟨gx + 1, 1, none⟩) (by dsimp only; omega) _)
end Go.Proofs.YtlnjildkdmeflaaDoor
