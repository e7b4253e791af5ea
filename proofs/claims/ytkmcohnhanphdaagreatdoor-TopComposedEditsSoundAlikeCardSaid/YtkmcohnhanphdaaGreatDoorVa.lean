/- Edits: the data of points and clips; cmp.Or, cmp.Compare, strings.Compare. -/
import Derived.Test.YtkmcohnhanphdaaGreatDoorYnm
import Derived.Test.YtkmcohnhanphdaaGreatDoorYk
import Derived.Test.YtkmcohnhanphdaaGreatDoorUa
import Derived.Test.YtkmcohnhanphdaaGreatDoorShelf
import Derived.Deep.RegionHeld3
import Derived.Deep.DrawnRows
import Derived.Deep.QuietTactic
import Derived.BigQuiet
import Derived.Test.YtkmcohnhanphdaaGreatDoorWb
set_option linter.unusedSimpArgs false
set_option linter.unusedVariables false
namespace Go.Proofs.YtkmcohnhanphdaaGreatDoor
open Go.RowKit Go.Dw
structure Pt where
  at_ : Int
  num : ByteArray
  den : ByteArray
def pt0 : Pt := ⟨0, ⟨#[]⟩, ⟨#[]⟩⟩
def ptOf (l : List Pt) (k : Nat) : Pt := l.getD k pt0
structure Cp where
  media : ByteArray
  chan : Int
  from_ : Int
  track : Int
  at_ : Int
  len : Int
  env : List Pt
def cp0 : Cp := ⟨⟨#[]⟩, 0, 0, 0, 0, 0, []⟩
def cpOf (l : List Cp) (k : Nat) : Cp := l.getD k cp0
theorem take_pt {l : List Pt} {k : Nat} (hk : k < l.length) : l.take (k + 1) = l.take k ++ [ptOf l k] := by
  rw [List.take_succ_eq_append_getElem hk]; simp [ptOf, List.getD, List.getElem?_eq_getElem hk]
theorem drop_pt {l : List Pt} {k : Nat} (hk : k < l.length) : l.drop k = ptOf l k :: l.drop (k + 1) := by
  rw [List.drop_eq_getElem_cons hk]; simp [ptOf, List.getD, List.getElem?_eq_getElem hk]
theorem pt_mem {l : List Pt} {k : Nat} (hk : k < l.length) : ptOf l k ∈ l := by simp [ptOf, List.getD, List.getElem?_eq_getElem hk]
theorem take_cp {l : List Cp} {k : Nat} (hk : k < l.length) : l.take (k + 1) = l.take k ++ [cpOf l k] := by
  rw [List.take_succ_eq_append_getElem hk]; simp [cpOf, List.getD, List.getElem?_eq_getElem hk]
theorem drop_cp {l : List Cp} {k : Nat} (hk : k < l.length) : l.drop k = cpOf l k :: l.drop (k + 1) := by
  rw [List.drop_eq_getElem_cons hk]; simp [cpOf, List.getD, List.getElem?_eq_getElem hk]
theorem cp_mem {l : List Cp} {k : Nat} (hk : k < l.length) : cpOf l k ∈ l := by simp [cpOf, List.getD, List.getElem?_eq_getElem hk]
def PtsAt (w : World) (B : Nat) (A : Option Addr) (n : Nat) (l : List Pt) : Prop :=
  l.length = n ∧ ∀ k, k < n → ∃ b o, A = some ⟨b, o, none⟩ ∧ b < B ∧ w.cell? ⟨b, o + k * 3, none⟩ = some (.int .i64 (ptOf l k).at_) ∧ w.cell? ⟨b, o + k * 3 + 1, none⟩ = some (.string (ptOf l k).num) ∧ w.cell? ⟨b, o + k * 3 + 2, none⟩ = some (.string (ptOf l k).den)
theorem PtsAt.below {w w' : World} {B B' : Nat} {A : Option Addr} {n : Nat} {l : List Pt} (h : PtsAt w B A n l) (hb : Below B' w w') (hB : B ≤ B') : PtsAt w' B A n l :=
  ⟨h.1, fun k hk => by
    obtain ⟨b, o, e, h1, h2, h3, h4⟩ := h.2 k hk
    exact ⟨b, o, e, h1, (hb.cell (p := ⟨b, o + k * 3, none⟩) (by dsimp only; omega)).trans h2, (hb.cell (p := ⟨b, o + k * 3 + 1, none⟩) (by dsimp only; omega)).trans h3, (hb.cell (p := ⟨b, o + k * 3 + 2, none⟩) (by dsimp only; omega)).trans h4⟩⟩
theorem PtsAt.mono {w : World} {B B' : Nat} {A : Option Addr} {n : Nat} {l : List Pt} (h : PtsAt w B A n l) (hB : B ≤ B') : PtsAt w B' A n l :=
  ⟨h.1, fun k hk => by
    obtain ⟨b, o, e, h1, h2⟩ := h.2 k hk
    exact ⟨b, o, e, by omega, h2⟩⟩
theorem PtsAt.nil (w : World) (B : Nat) (A : Option Addr) : PtsAt w B A 0 [] := ⟨rfl, fun k hk => by omega⟩
structure CpCells (w : World) (b o : Nat) (c : Cp) (v : Value) : Prop where
  c0 : w.cell? ⟨b, o, none⟩ = some (.string c.media)
  c1 : w.cell? ⟨b, o + 1, none⟩ = some (.int .i64 c.chan)
  c2 : w.cell? ⟨b, o + 2, none⟩ = some (.int .i64 c.from_)
  c3 : w.cell? ⟨b, o + 3, none⟩ = some (.int .i64 c.track)
  c4 : w.cell? ⟨b, o + 4, none⟩ = some (.int .i64 c.at_)
  c5 : w.cell? ⟨b, o + 5, none⟩ = some (.int .i64 c.len)
  c6 : w.cell? ⟨b, o + 6, none⟩ = some v
theorem CpCells.below {w w' : World} {b o B : Nat} {c : Cp} {v : Value} (h : CpCells w b o c v) (hb : Below B w w') (hB : b < B) : CpCells w' b o c v :=
  ⟨(hb.cell (p := ⟨b, o, none⟩) hB).trans h.c0, (hb.cell (p := ⟨b, o + 1, none⟩) hB).trans h.c1, (hb.cell (p := ⟨b, o + 2, none⟩) hB).trans h.c2, (hb.cell (p := ⟨b, o + 3, none⟩) hB).trans h.c3, (hb.cell (p := ⟨b, o + 4, none⟩) hB).trans h.c4, (hb.cell (p := ⟨b, o + 5, none⟩) hB).trans h.c5, (hb.cell (p := ⟨b, o + 6, none⟩) hB).trans h.c6⟩
def ClipsAt (w : World) (B : Nat) (A : Option Addr) (n : Nat) (l : List Cp) : Prop :=
  l.length = n ∧ ∀ k, k < n → ∃ b o A' n' c', A = some ⟨b, o, none⟩ ∧ b < B ∧ CpCells w b (o + k * 7) (cpOf l k) (.slice A' n' c') ∧ n' ≤ c' ∧ c' ≤ maxLen ∧ PtsAt w B A' n' (cpOf l k).env
theorem ClipsAt.below {w w' : World} {B B' : Nat} {A : Option Addr} {n : Nat} {l : List Cp} (h : ClipsAt w B A n l) (hb : Below B' w w') (hB : B ≤ B') : ClipsAt w' B A n l :=
  ⟨h.1, fun k hk => by
    obtain ⟨b, o, A', n', c', e, h1, h2, h3, h4, h5⟩ := h.2 k hk
    exact ⟨b, o, A', n', c', e, h1, h2.below hb (by omega), h3, h4, h5.below hb hB⟩⟩
theorem ClipsAt.mono {w : World} {B B' : Nat} {A : Option Addr} {n : Nat} {l : List Cp} (h : ClipsAt w B A n l) (hB : B ≤ B') : ClipsAt w B' A n l :=
  ⟨h.1, fun k hk => by
    obtain ⟨b, o, A', n', c', e, h1, h2, h3, h4, h5⟩ := h.2 k hk
    exact ⟨b, o, A', n', c', e, by omega, h2, h3, h4, h5.mono hB⟩⟩
theorem ClipsAt.nil (w : World) (B : Nat) (A : Option Addr) : ClipsAt w B A 0 [] := ⟨rfl, fun k hk => by omega⟩
def cpV (c : Cp) (v : Value) : Value := .agg #[.string c.media, .int .i64 c.chan, .int .i64 c.from_, .int .i64 c.track, .int .i64 c.at_, .int .i64 c.len, v]
theorem CMPINT_any (x y : Int) (w : World) : Calls Tryz.prog 91 #[.int .i64 x, .int .i64 y] w fun e w' => e = .returned (.int .i64 (Lib.compareInt x y)) ∧ w = w' :=
  (Tryz.cmp_Compare_int x y w).mono fun _ _ h => ⟨h.1, h.2.symm⟩
theorem STRCMP_any (a b : ByteArray) (w : World) : Calls Tryz.prog 92 #[.string a, .string b] w fun e w' => e = .returned (.int .i64 (Lib.compareBytes a.data.toList b.data.toList)) ∧ w = w' :=
  (Tryz.strings_Compare a b w).mono fun _ _ h => ⟨h.1, h.2.symm⟩
def orI : List Int → Int
  | [] => 0
  | x :: t => if x ≠ 0 then x else orI t
theorem elOf_drop {xs : List Int} {k : Nat} (hk : k < xs.length) : xs.drop k = elOf xs k :: xs.drop (k + 1) := by
  rw [List.drop_eq_getElem_cons hk]; simp [elOf, List.getD, List.getElem?_eq_getElem hk]
set_option maxHeartbeats 1600000 in
theorem CMPOR_any (A : Option Addr) (n c : Nat) (xs : List Int) (hn : n ≤ 9223372036854775807) (w : World) (B : Nat) (hh : Hid (IntsAt w B A n xs)) :
    Calls Tryz.prog 90 #[.slice A n c] w fun e w' => e = .returned (.int .i64 (orI xs)) ∧ w = w' := by
  have hl := Lib.hid hh.out.1
  go_enter Tryz.func90, Tryz.ntmps90
  go_wp2_with fail
  go_loop [8] (fun i => ∃ k : Nat, k ≤ n ∧ i = .int .i64 k ∧ Hid (orI xs = orI (xs.drop k))) (fun i => n - (intOf i).toNat)
  case atStart => exact ⟨0, Nat.zero_le _, rfl, rfl⟩
  case round =>
    obtain ⟨k, hk, rfl, HO⟩ := hrel
    by_cases hlt : k < n
    · obtain ⟨ad, rfl, hb, hc⟩ := hh.out.2 k hlt
      have hk0 : (0 : Int) ≤ (k : Int) := by omega
      have hkn : (k : Int) < (n : Int) := by omega
      have HD : Hid (orI (xs.drop k) = if elOf xs k ≠ 0 then elOf xs k else orI (xs.drop (k + 1))) := by show _ = _; rw [elOf_drop (by rw [hl.out]; exact hlt)]; rfl
      obtain ⟨x, hx⟩ : ∃ x, elOf xs k = x := ⟨_, rfl⟩
      rw [hx] at hc HD
      clear hx
      by_cases hx0 : x = 0
      · subst hx0
        have HO2 : Hid (orI xs = orI (xs.drop (k + 1))) := by show _ = _; rw [HO.out, HD.out, if_neg (by simp)]
        go_wp2_with fail
        go_round
        case rel => exact ⟨k + 1, by omega, by go_num, HO2⟩
        case measure => simp [intOf]; omega
      · have hq : (x != 0) = true := by simpa using hx0
        have HV : Hid (orI xs = x) := by show _ = _; rw [HO.out, HD.out, if_pos hx0]
        clear hx0
        go_wp2_with fail
        go_ret
        rw [HV.out]
        exact ⟨rfl, rfl⟩
    · obtain rfl : k = n := by omega
      have HV : Hid (orI xs = 0) := by show _ = _; rw [HO.out, List.drop_of_length_le (by rw [hl.out]; exact Nat.le_refl _)]; rfl
      go_wp2_with fail
      go_ret
      rw [HV.out]
      exact ⟨rfl, rfl⟩
end Go.Proofs.YtkmcohnhanphdaaGreatDoor
/- compare: the order of clips. -/
namespace Go.Proofs.YtkmcohnhanphdaaGreatDoor
open Go.RowKit Go.Dw
attribute [local go_sem ↓] Go.wp_at_zero Go.wp_at_succ
def cmpC (a b : Cp) : Int := orI [Lib.compareInt a.track b.track, Lib.compareInt a.at_ b.at_, Lib.compareBytes a.media.data.toList b.media.data.toList, Lib.compareInt a.chan b.chan, Lib.compareInt a.from_ b.from_, Lib.compareInt a.len b.len]
theorem seven_cells {w : World} {g : Nat} {v0 v1 v2 v3 v4 v5 v6 : Value} {T : TypeId} (h : w.heap[g]? = some (.cells #[v0, v1, v2, v3, v4, v5, v6] T (0, 0))) :
    w.cell? ⟨g, 0, none⟩ = some v0 ∧ w.cell? ⟨g, 1, none⟩ = some v1 ∧ w.cell? ⟨g, 2, none⟩ = some v2 ∧ w.cell? ⟨g, 3, none⟩ = some v3 ∧ w.cell? ⟨g, 4, none⟩ = some v4 ∧ w.cell? ⟨g, 5, none⟩ = some v5 ∧ w.cell? ⟨g, 6, none⟩ = some v6 := by
  refine ⟨?_, ?_, ?_, ?_, ?_, ?_, ?_⟩
  · rw [own_cell1 h 0]; rfl
  · rw [own_cell1 h 1]; rfl
  · rw [own_cell1 h 2]; rfl
  · rw [own_cell1 h 3]; rfl
  · rw [own_cell1 h 4]; rfl
  · rw [own_cell1 h 5]; rfl
  · rw [own_cell1 h 6]; rfl
theorem boxes2c (w : World) (o1 o2 : Obj) : ∃ W gx, W = (w.alloc o1).alloc o2 ∧ gx = w.heap.size ∧ Hid (W.heap[gx]? = some o1 ∧ W.heap[gx + 1]? = some o2) ∧ Hid (Below w.heap.size w W) ∧ Hid (W.heap.size = w.heap.size + 2) := by
  refine ⟨_, _, rfl, rfl, ⟨?_, ?_⟩, ?_, ?_⟩
  · rw [Below.heap_alloc _ _ _ (by simp)]
    exact heap_alloc_new _ _
  · have := heap_alloc_new (w.alloc o1) o2
    rwa [World.size_alloc] at this
  · exact ((Below.refl _ _).alloc (Nat.le_refl _) _).alloc (by simp) _
  · show _ = _; simp
theorem ints6_new (w : World) (a b c d e f : Int) (T : TypeId) : IntsAt (w.alloc (.cells #[.int .i64 a, .int .i64 b, .int .i64 c, .int .i64 d, .int .i64 e, .int .i64 f] T)) (w.heap.size + 1) (some ⟨w.heap.size, 0, none⟩) 6 [a, b, c, d, e, f] := by
  refine ⟨rfl, fun k hk => ⟨_, rfl, by simp, ?_⟩⟩
  rw [show (⟨w.heap.size, 0, none⟩ : Addr).add k = ⟨w.heap.size, k, none⟩ by unfold Addr.add; split <;> simp_all, World.cell?_alloc_new]
  rcases k with _ | _ | _ | _ | _ | _ | k
  all_goals first | rfl | omega
theorem ints6_drew (w : World) (a b c d e f : Int) (T : TypeId) : IntsAt (w.alloc (.cells #[.int .i64 a, .int .i64 b, .int .i64 c, .int .i64 d, .int .i64 e, .int .i64 f] T)).drew (w.heap.size + 1) (some ⟨w.heap.size, 0, none⟩) 6 [a, b, c, d, e, f] := ints6_new w a b c d e f T
set_option maxRecDepth 100000 in
set_option maxHeartbeats 4000000 in
theorem ECOMPARE_any (a b : Cp) (va vb : Value) (w : World) :
    Calls Tryz.prog 49 #[cpV a va, cpV b vb] w fun e w' => e = .returned (.int .i64 (cmpC a b)) ∧ Below w.heap.size w w' := by
  obtain ⟨ma, ca, fa, ta, aa, la, ea⟩ := a
  obtain ⟨mb, cb, fb, tb, ab, lb, eb⟩ := b
  unfold cpV cmpC
  dsimp only
  obtain ⟨W, g2, hW, hg2, HH, HBW, HSW⟩ := boxes2c w (.cells #[.string ma, .int .i64 ca, .int .i64 fa, .int .i64 ta, .int .i64 aa, .int .i64 la, va] 58) (.cells #[.string mb, .int .i64 cb, .int .i64 fb, .int .i64 tb, .int .i64 ab, .int .i64 lb, vb] 58)
  obtain ⟨g3, hg3⟩ : ∃ g, g = g2 + 1 := ⟨_, rfl⟩
  rw [← hg3] at HH
  obtain ⟨p0, p1, p2, p3, p4, p5, p6⟩ := seven_cells HH.out.1
  obtain ⟨q0, q1, q2, q3, q4, q5, q6⟩ := seven_cells HH.out.2
  go_enter Tryz.func49, Tryz.ntmps49
  go_upto_region 1 with (fail)
  rw [← hW, ← hg2, ← hg3]
  clear hW hg2 hg3 HSW HH
  go_region_held3 (fun w' => w'.cell? ⟨g2, 0, none⟩ = some (.string ma) ∧ w'.cell? ⟨g2, 1, none⟩ = some (.int .i64 ca) ∧ w'.cell? ⟨g2, 2, none⟩ = some (.int .i64 fa) ∧ w'.cell? ⟨g2, 3, none⟩ = some (.int .i64 ta) ∧ w'.cell? ⟨g2, 4, none⟩ = some (.int .i64 aa) ∧ w'.cell? ⟨g2, 5, none⟩ = some (.int .i64 la) ∧ w'.cell? ⟨g3, 0, none⟩ = some (.string mb) ∧ w'.cell? ⟨g3, 1, none⟩ = some (.int .i64 cb) ∧ w'.cell? ⟨g3, 2, none⟩ = some (.int .i64 fb) ∧ w'.cell? ⟨g3, 3, none⟩ = some (.int .i64 tb) ∧ w'.cell? ⟨g3, 4, none⟩ = some (.int .i64 ab) ∧ w'.cell? ⟨g3, 5, none⟩ = some (.int .i64 lb)) (go_keep)
    (first
      | (go_at_call 91; refine (CMPINT_any _ _ _).mono ?_; rintro e w5 ⟨rfl, rfl⟩)
      | (go_at_call 92; refine (STRCMP_any _ _ _).mono ?_; rintro e w5 ⟨rfl, rfl⟩)
      | (go_at_call 90; refine (CMPOR_any _ 6 _ [Lib.compareInt ta tb, Lib.compareInt aa ab, Lib.compareBytes ma.data.toList mb.data.toList, Lib.compareInt ca cb, Lib.compareInt fa fb, Lib.compareInt la lb] (by decide) _ _ (Lib.hid (ints6_drew _ _ _ _ _ _ _ _))).mono ?_; rintro e w6 ⟨rfl, rfl⟩))
  go_wp2_with fail
  go_ret
  exact ⟨rfl, HBW.out.trans (((Below.refl _ W).alloc (by simp) _).drew.mono HBW.out.size)⟩
end Go.Proofs.YtkmcohnhanphdaaGreatDoor
/- checkEnvelope. -/
namespace Go.Proofs.YtkmcohnhanphdaaGreatDoor
open Go.RowKit Go.Dw
def prevAt (l : List Pt) (k : Nat) : Option Int := if k = 0 then none else some (ptOf l (k - 1)).at_
def notAfter (prev : Option Int) (x : Int) : Bool := match prev with
  | none => false
  | some y => decide (x ≤ y)
def shortB (p : Pt) : Bool := decide ((Lib.trimPrefix p.num.data.toList [45]).length ≤ 40) && decide (p.den.size ≤ 40)
noncomputable def ptF (len : Int) (prev : Option Int) (p : Pt) : Int :=
  if p.at_ < 0 ∨ len ≤ p.at_ then 1 else if notAfter prev p.at_ = true then 8 else if chkQ p.num p.den ≠ 0 then chkQ p.num p.den else if shortB p = false then 2 else 0
noncomputable def envL (len : Int) : Option Int → List Pt → Int
  | _, [] => 0
  | prev, p :: t => if ptF len prev p ≠ 0 then ptF len prev p else envL len (some p.at_) t
noncomputable def envF (len : Int) (l : List Pt) : Int := if l.length = 0 then 9 else if 50 < l.length then 2 else envL len none l
theorem TRIMPREFIX_any (s p : ByteArray) (w : World) : Calls Tryz.prog 56 #[.string s, .string p] w fun e w' => e = .returned (.string ⟨(Lib.trimPrefix s.data.toList p.data.toList).toArray⟩) ∧ w = w' :=
  (Tryz.strings_TrimPrefix s p w).mono fun _ _ h => ⟨h.1, h.2.symm⟩
theorem env_stop {len x : Int} {l : List Pt} {k : Nat} (hk : k < l.length) (h : ptF len (prevAt l k) (ptOf l k) = x) (hx : x ≠ 0) : envL len (prevAt l k) (l.drop k) = x := by
  rw [drop_pt hk, envL, h, if_pos hx]
theorem env_step {len : Int} {l : List Pt} {k : Nat} (hk : k < l.length) (h : ptF len (prevAt l k) (ptOf l k) = 0) : envL len (prevAt l k) (l.drop k) = envL len (prevAt l (k + 1)) (l.drop (k + 1)) := by
  rw [drop_pt hk, envL, h, if_neg (by simp)]
  simp [prevAt]
theorem size_str (l : List UInt8) : (⟨l.toArray⟩ : ByteArray).size = l.length := by simp [ByteArray.size]
set_option maxRecDepth 100000 in
set_option maxHeartbeats 8000000 in
theorem CHECKENV_any (c : Cp) (A : Option Addr) (n cap : Nat) (hz : Hid (∀ p ∈ c.env, p.num.size ≤ maxLen ∧ p.den.size ≤ maxLen)) (w : World) (B : Nat) (hB : B ≤ w.heap.size) (hh : Hid (PtsAt w B A n c.env)) :
    Calls Tryz.prog 21 #[cpV c (.slice A n cap)] w fun e w' => e = .returned (.int .i64 (envF c.len c.env)) ∧ Below w.heap.size w w' := by
  obtain ⟨m, ch, fr, tr, at9, ln, env⟩ := c
  unfold cpV
  dsimp only at hz hh ⊢
  have hl := Lib.hid hh.out.1
  obtain ⟨W, g1, hW, hg1, HG, HBW, HSW⟩ := cell_new w 58 #[.string m, .int .i64 ch, .int .i64 fr, .int .i64 tr, .int .i64 at9, .int .i64 ln, .slice A n cap]
  obtain ⟨_, _, _, _, _, p5, p6⟩ := seven_cells HG.out
  have hhW : Hid (PtsAt W B A n env) := hh.out.below HBW.out hB
  have hBW : B ≤ W.heap.size := Nat.le_trans hB HBW.out.size
  have hg1W := blk_lt HG.out
  by_cases h0 : n = 0
  · subst h0
    have HV : Hid (envF ln env = 9) := by show _ = _; unfold envF; rw [if_pos hl.out]
    have HBR : Hid (Below W.heap.size W W) := Below.refl _ _
    go_enter Tryz.func21, Tryz.ntmps21
    go_upto_region 1 with (fail)
    rw [← hW, ← hg1]
    clear hW hg1
    go_wp2_with fail
    go_ret
    rw [HV.out]
    exact ⟨rfl, HBW.out.trans (HBR.out.mono HBW.out.size)⟩
  have h0i : ((n : Int) == 0) = false := by simp; omega
  by_cases h5 : 50 < n
  · have h5i : decide ((50 : Int) < (n : Int)) = true := by simp; omega
    have HV : Hid (envF ln env = 2) := by show _ = _; unfold envF; rw [hl.out, if_neg h0, if_pos h5]
    have HBR : Hid (Below W.heap.size W W) := Below.refl _ _
    clear h5 h0
    go_enter Tryz.func21, Tryz.ntmps21
    go_upto_region 1 with (fail)
    rw [← hW, ← hg1]
    clear hW hg1
    go_wp2_with fail
    go_ret
    rw [HV.out]
    exact ⟨rfl, HBW.out.trans (HBR.out.mono HBW.out.size)⟩
  have h5i : decide ((50 : Int) < (n : Int)) = false := by simp; omega
  have HE0 : Hid (envF ln env = envL ln none env) := by show _ = _; unfold envF; rw [hl.out, if_neg h0, if_neg h5]
  have hn50 : n ≤ 50 := by omega
  clear h0 h5
  go_enter Tryz.func21, Tryz.ntmps21
  go_upto_region 1 with (fail)
  rw [← hW, ← hg1]
  clear hW hg1
  go_wp2_with fail
  clear h0i h5i
  have P5 := Lib.hid p5
  have P6 := Lib.hid p6
  clear p5 p6
  go_loopw [17] (fun i wr => ∃ k : Nat, k ≤ n ∧ i = .int .i64 k ∧ Hid (envL ln none env = envL ln (prevAt env k) (env.drop k)) ∧ Hid (Below W.heap.size W wr)) (fun i _ => n - (intOf i).toNat)
  case atStart => exact ⟨0, Nat.zero_le _, rfl, (by show _ = _; rw [List.drop_zero]; rfl), Below.refl _ _⟩
  case round =>
    obtain ⟨k, hk, rfl, HE, HB⟩ := hrel
    have hsz := HB.out.size
    by_cases hlt : k < n
    · have hk0 : (0 : Int) ≤ (k : Int) := by omega
      have hkn : (k : Int) < (n : Int) := by omega
      obtain ⟨b, o, e, hb, k1, k2, k3⟩ := (hhW.out.below (HB.out.mono hBW) (Nat.le_refl _)).2 k hlt
      subst e
      obtain ⟨hz1, hz2⟩ := hz.out _ (pt_mem (by rw [hl.out]; exact hlt))
      obtain ⟨p, hp⟩ : ∃ p, ptOf env k = p := ⟨_, rfl⟩
      have HPT := Lib.hid hp
      rw [hp] at k1 k2 k3 hz1 hz2
      obtain ⟨pa, pn, pd⟩ := p
      dsimp only at k1 k2 k3 hz1 hz2
      clear hp
      go_upto_region 8 with (fail)
      obtain ⟨X, g4, hX, hg4, HX, HBX, HSX⟩ := cell_new wr 68 #[.int .i64 pa, .string pn, .string pd]
      rw [← hX, ← hg4]
      have HBR := Lib.hid (HB.out.trans (HBX.out.mono hsz))
      obtain ⟨x0, x1, x2, _, _, _⟩ := three_cells HX.out
      have p5 := (HBR.out.cell (p := ⟨g1, 5, none⟩) hg1W).trans P5.out
      have p6 := (HBR.out.cell (p := ⟨g1, 6, none⟩) hg1W).trans P6.out
      clear hX hg4 HSX k1 k2 k3
      by_cases ha : pa < 0
      · have HV : Hid (envF ln env = 1) := by
          show _ = _
          rw [HE0.out, HE.out]
          refine env_stop (by rw [hl.out]; exact hlt) ?_ (by decide)
          unfold ptF
          rw [HPT.out]
          dsimp only
          rw [if_pos (.inl ha)]
        go_wp2_with fail
        go_ret
        rw [HV.out]
        exact ⟨rfl, HBW.out.trans (HBR.out.mono HBW.out.size)⟩
      have ha0 : (0 : Int) ≤ pa := by omega
      by_cases hb2 : ln ≤ pa
      · have HV : Hid (envF ln env = 1) := by
          show _ = _
          rw [HE0.out, HE.out]
          refine env_stop (by rw [hl.out]; exact hlt) ?_ (by decide)
          unfold ptF
          rw [HPT.out]
          dsimp only
          rw [if_pos (.inr hb2)]
        clear ha
        go_wp2_with fail
        go_ret
        rw [HV.out]
        exact ⟨rfl, HBW.out.trans (HBR.out.mono HBW.out.size)⟩
      have hb3 : decide (ln ≤ pa) = false := by simp; omega
      have HA1 := Lib.hid (show ¬ (pa < 0 ∨ ln ≤ pa) by omega)
      clear ha hb2
      go_upto_region 10 with (fail)
      clear hb3
      obtain ⟨na, hna⟩ : ∃ na, notAfter (prevAt env k) pa = na := ⟨_, rfl⟩
      have HNA := Lib.hid hna
      by_cases hk00 : k = 0
      · have hna0 : na = false := by rw [← hna, hk00]; rfl
        subst hna0
        clear hna
        have hg0 : decide (0 < k) = false := by simp; omega
        clear hk00
        go_quiet (fail)
        obtain ⟨Y, hY⟩ : ∃ Y, Y = X.drewN nq := ⟨_, rfl⟩
        have HBY : Hid (Below X.heap.size X Y) := by rw [hY]; exact belowN (Below.refl _ _) _
        have HBR := Lib.hid (HBR.out.trans (HBY.out.mono (Nat.le_trans hsz HBX.out.size)))
        have hx4X := blk_lt HX.out
        have x1 := (HBY.out.cell (p := ⟨g4, 1, none⟩) hx4X).trans x1
        have x2 := (HBY.out.cell (p := ⟨g4, 2, none⟩) hx4X).trans x2
        have hx4 : g4 < Y.heap.size := Nat.lt_of_lt_of_le hx4X HBY.out.size
        rw [← hY]
        clear hY p5 p6
        have HA2 : Hid (¬ notAfter (prevAt env k) pa = true) := by
            show ¬ _
            rw [HNA.out]
            simp
        obtain ⟨cq, hcq⟩ : ∃ cq, chkQ pn pd = cq := ⟨_, rfl⟩
        have HCQ := Lib.hid hcq
        clear hcq
        by_cases hc0 : cq = 0
        case neg =>
            have hq : (cq != 0) = true := by simpa using hc0
            have HV : Hid (envF ln env = cq) := by
              show _ = _
              rw [HE0.out, HE.out]
              refine env_stop (by rw [hl.out]; exact hlt) ?_ hc0
              unfold ptF
              rw [HPT.out]
              dsimp only
              rw [if_neg HA1.out, if_neg HA2.out, HCQ.out, if_pos hc0]
            clear hc0
            go_wp2_with fail
            refine (CHECKRATIO_any pn pd hz1 hz2 _).mono ?_
            rintro e w1 ⟨rfl, hbr1⟩
            rw [HCQ.out]
            have HBR := Lib.hid (HBR.out.trans (hbr1.mono HBR.out.size))
            clear hbr1
            go_wp2_with fail
            go_ret
            rw [HV.out]
            exact ⟨rfl, HBW.out.trans (HBR.out.mono HBW.out.size)⟩
        subst hc0
        obtain ⟨r, HR⟩ : ∃ r : ByteArray, Hid (r = ⟨(Lib.trimPrefix pn.data.toList [45]).toArray⟩) := ⟨_, rfl⟩
        have HRS : Hid (shortB ⟨pa, pn, pd⟩ = (decide (r.size ≤ 40) && decide (pd.size ≤ 40))) := by
            show (decide ((Lib.trimPrefix pn.data.toList [45]).length ≤ 40) && decide (pd.size ≤ 40)) = _
            rw [HR.out, size_str (Lib.trimPrefix pn.data.toList [45])]
        have HPF : Hid (ptF ln (prevAt env k) (ptOf env k) = if shortB ⟨pa, pn, pd⟩ = false then 2 else 0) := by
            show _ = _
            unfold ptF
            rw [HPT.out]
            dsimp only
            rw [if_neg HA1.out, if_neg HA2.out, HCQ.out, if_neg (by simp)]
        go_wp2_with fail
        refine (CHECKRATIO_any pn pd hz1 hz2 _).mono ?_
        rintro e w1 ⟨rfl, hbr1⟩
        rw [HCQ.out]
        have HBR := Lib.hid (HBR.out.trans (hbr1.mono HBR.out.size))
        have y1 := (hbr1.cell (p := ⟨g4, 1, none⟩) hx4).trans x1
        have y2 := (hbr1.cell (p := ⟨g4, 2, none⟩) hx4).trans x2
        clear hbr1 x1 x2
        go_wp2_with fail
        refine (TRIMPREFIX_any pn ⟨#[45]⟩ _).mono ?_
        rintro e w2 ⟨rfl, rfl⟩
        have hr2 := HR.out
        dsimp only at hr2 ⊢
        rw [← hr2]
        clear hr2
        obtain ⟨rs, hrs⟩ : ∃ rs, r.size = rs := ⟨_, rfl⟩
        obtain ⟨ps, hps⟩ : ∃ ps, pd.size = ps := ⟨_, rfl⟩
        rw [hrs, hps] at HRS
        by_cases hs1 : rs ≤ 40
        case neg =>
            have hd1 : decide ((40 : Int) < (rs : Int)) = true := by simp; omega
            have HV : Hid (envF ln env = 2) := by
              show _ = _
              rw [HE0.out, HE.out]
              refine env_stop (by rw [hl.out]; exact hlt) ?_ (by decide)
              rw [HPF.out, if_pos (by rw [HRS.out]; simp [hs1])]
            clear hs1 hps
            go_wp2_with fail
            go_ret
            rw [HV.out]
            exact ⟨rfl, HBW.out.trans (HBR.out.mono HBW.out.size)⟩
        have hd1 : decide ((40 : Int) < (rs : Int)) = false := by simp; omega
        by_cases hs2 : ps ≤ 40
        case neg =>
            have hd2 : decide ((40 : Int) < (ps : Int)) = true := by simp; omega
            have HV : Hid (envF ln env = 2) := by
              show _ = _
              rw [HE0.out, HE.out]
              refine env_stop (by rw [hl.out]; exact hlt) ?_ (by decide)
              rw [HPF.out, if_pos (by rw [HRS.out]; simp [hs2])]
            clear hs1 hs2
            go_wp2_with fail
            go_ret
            rw [HV.out]
            exact ⟨rfl, HBW.out.trans (HBR.out.mono HBW.out.size)⟩
        have hd2 : decide ((40 : Int) < (ps : Int)) = false := by simp; omega
        have HE2 : Hid (envL ln none env = envL ln (prevAt env (k + 1)) (env.drop (k + 1))) := by
            show _ = _
            rw [HE.out]
            refine env_step (by rw [hl.out]; exact hlt) ?_
            rw [HPF.out, if_neg (by rw [HRS.out]; simp [hs1, hs2])]
        clear hs1 hs2
        go_wp2_with fail
        go_roundw
        case rel => exact ⟨k + 1, by omega, by go_num, HE2, HBR⟩
        case measure => simp [intOf]; omega
      · have hg0 : decide ((0 : Int) < (k : Int)) = true := by simp; omega
        obtain ⟨j, rfl⟩ : ∃ j, k = j + 1 := ⟨k - 1, by omega⟩
        obtain ⟨b9, o9, e9, hb9, k9, _, _⟩ := (hhW.out.below (HBR.out.mono hBW) (Nat.le_refl _)).2 j (by omega)
        cases e9
        have hpj : na = decide (pa ≤ (ptOf env j).at_) := by rw [← hna]; simp [notAfter, prevAt]
        obtain ⟨pj, hpjj⟩ : ∃ pj, (ptOf env j).at_ = pj := ⟨_, rfl⟩
        rw [hpjj] at k9 hpj
        clear hpjj hna hk00
        have hji : ((j + 1 : Nat) : Int) - 1 = (j : Int) := by omega
        have hjn : (j : Int) < (n : Int) := by omega
        have hj0 : (0 : Int) ≤ (j : Int) := by omega
        have hp1 : decide (pa ≤ pj) = na := hpj.symm
        clear hpj
        cases na with
        | true =>
          have HV : Hid (envF ln env = 8) := by
              show _ = _
              rw [HE0.out, HE.out]
              refine env_stop (by rw [hl.out]; exact hlt) ?_ (by decide)
              unfold ptF
              rw [HPT.out]
              dsimp only
              rw [if_neg HA1.out, if_pos HNA.out]
          go_quiet (fail)
          obtain ⟨Y, hY⟩ : ∃ Y, Y = X.drewN nq := ⟨_, rfl⟩
          have HBY : Hid (Below X.heap.size X Y) := by rw [hY]; exact belowN (Below.refl _ _) _
          have HBR := Lib.hid (HBR.out.trans (HBY.out.mono (Nat.le_trans hsz HBX.out.size)))
          have hx4X := blk_lt HX.out
          have x1 := (HBY.out.cell (p := ⟨g4, 1, none⟩) hx4X).trans x1
          have x2 := (HBY.out.cell (p := ⟨g4, 2, none⟩) hx4X).trans x2
          have hx4 : g4 < Y.heap.size := Nat.lt_of_lt_of_le hx4X HBY.out.size
          rw [← hY]
          clear hY p5 p6
          go_wp2_with fail
          go_ret
          rw [HV.out]
          exact ⟨rfl, HBW.out.trans (HBR.out.mono HBW.out.size)⟩
        | false =>
          go_quiet (fail)
          obtain ⟨Y, hY⟩ : ∃ Y, Y = X.drewN nq := ⟨_, rfl⟩
          have HBY : Hid (Below X.heap.size X Y) := by rw [hY]; exact belowN (Below.refl _ _) _
          have HBR := Lib.hid (HBR.out.trans (HBY.out.mono (Nat.le_trans hsz HBX.out.size)))
          have hx4X := blk_lt HX.out
          have x1 := (HBY.out.cell (p := ⟨g4, 1, none⟩) hx4X).trans x1
          have x2 := (HBY.out.cell (p := ⟨g4, 2, none⟩) hx4X).trans x2
          have hx4 : g4 < Y.heap.size := Nat.lt_of_lt_of_le hx4X HBY.out.size
          rw [← hY]
          clear hY p5 p6
          have HA2 : Hid (¬ notAfter (prevAt env (j + 1)) pa = true) := by
              show ¬ _
              rw [HNA.out]
              simp
          obtain ⟨cq, hcq⟩ : ∃ cq, chkQ pn pd = cq := ⟨_, rfl⟩
          have HCQ := Lib.hid hcq
          clear hcq
          by_cases hc0 : cq = 0
          case neg =>
              have hq : (cq != 0) = true := by simpa using hc0
              have HV : Hid (envF ln env = cq) := by
                show _ = _
                rw [HE0.out, HE.out]
                refine env_stop (by rw [hl.out]; exact hlt) ?_ hc0
                unfold ptF
                rw [HPT.out]
                dsimp only
                rw [if_neg HA1.out, if_neg HA2.out, HCQ.out, if_pos hc0]
              clear hc0
              go_wp2_with fail
              refine (CHECKRATIO_any pn pd hz1 hz2 _).mono ?_
              rintro e w1 ⟨rfl, hbr1⟩
              rw [HCQ.out]
              have HBR := Lib.hid (HBR.out.trans (hbr1.mono HBR.out.size))
              clear hbr1
              go_wp2_with fail
              go_ret
              rw [HV.out]
              exact ⟨rfl, HBW.out.trans (HBR.out.mono HBW.out.size)⟩
          subst hc0
          obtain ⟨r, HR⟩ : ∃ r : ByteArray, Hid (r = ⟨(Lib.trimPrefix pn.data.toList [45]).toArray⟩) := ⟨_, rfl⟩
          have HRS : Hid (shortB ⟨pa, pn, pd⟩ = (decide (r.size ≤ 40) && decide (pd.size ≤ 40))) := by
              show (decide ((Lib.trimPrefix pn.data.toList [45]).length ≤ 40) && decide (pd.size ≤ 40)) = _
              rw [HR.out, size_str (Lib.trimPrefix pn.data.toList [45])]
          have HPF : Hid (ptF ln (prevAt env (j + 1)) (ptOf env (j + 1)) = if shortB ⟨pa, pn, pd⟩ = false then 2 else 0) := by
              show _ = _
              unfold ptF
              rw [HPT.out]
              dsimp only
              rw [if_neg HA1.out, if_neg HA2.out, HCQ.out, if_neg (by simp)]
          go_wp2_with fail
          refine (CHECKRATIO_any pn pd hz1 hz2 _).mono ?_
          rintro e w1 ⟨rfl, hbr1⟩
          rw [HCQ.out]
          have HBR := Lib.hid (HBR.out.trans (hbr1.mono HBR.out.size))
          have y1 := (hbr1.cell (p := ⟨g4, 1, none⟩) hx4).trans x1
          have y2 := (hbr1.cell (p := ⟨g4, 2, none⟩) hx4).trans x2
          clear hbr1 x1 x2
          go_wp2_with fail
          refine (TRIMPREFIX_any pn ⟨#[45]⟩ _).mono ?_
          rintro e w2 ⟨rfl, rfl⟩
          have hr2 := HR.out
          dsimp only at hr2 ⊢
          rw [← hr2]
          clear hr2
          obtain ⟨rs, hrs⟩ : ∃ rs, r.size = rs := ⟨_, rfl⟩
          obtain ⟨ps, hps⟩ : ∃ ps, pd.size = ps := ⟨_, rfl⟩
          rw [hrs, hps] at HRS
          by_cases hs1 : rs ≤ 40
          case neg =>
              have hd1 : decide ((40 : Int) < (rs : Int)) = true := by simp; omega
              have HV : Hid (envF ln env = 2) := by
                show _ = _
                rw [HE0.out, HE.out]
                refine env_stop (by rw [hl.out]; exact hlt) ?_ (by decide)
                rw [HPF.out, if_pos (by rw [HRS.out]; simp [hs1])]
              clear hs1 hps
              go_wp2_with fail
              go_ret
              rw [HV.out]
              exact ⟨rfl, HBW.out.trans (HBR.out.mono HBW.out.size)⟩
          have hd1 : decide ((40 : Int) < (rs : Int)) = false := by simp; omega
          by_cases hs2 : ps ≤ 40
          case neg =>
              have hd2 : decide ((40 : Int) < (ps : Int)) = true := by simp; omega
              have HV : Hid (envF ln env = 2) := by
                show _ = _
                rw [HE0.out, HE.out]
                refine env_stop (by rw [hl.out]; exact hlt) ?_ (by decide)
                rw [HPF.out, if_pos (by rw [HRS.out]; simp [hs2])]
              clear hs1 hs2
              go_wp2_with fail
              go_ret
              rw [HV.out]
              exact ⟨rfl, HBW.out.trans (HBR.out.mono HBW.out.size)⟩
          have hd2 : decide ((40 : Int) < (ps : Int)) = false := by simp; omega
          have HE2 : Hid (envL ln none env = envL ln (prevAt env ((j + 1) + 1)) (env.drop ((j + 1) + 1))) := by
              show _ = _
              rw [HE.out]
              refine env_step (by rw [hl.out]; exact hlt) ?_
              rw [HPF.out, if_neg (by rw [HRS.out]; simp [hs1, hs2])]
          clear hs1 hs2
          go_wp2_with fail
          go_roundw
          case rel => exact ⟨(j + 1) + 1, by omega, by go_num, HE2, HBR⟩
          case measure => simp [intOf]; omega
    · obtain rfl : k = n := by omega
      have HV : Hid (envF ln env = 0) := by show _ = _; rw [HE0.out, HE.out, List.drop_of_length_le (by rw [hl.out]; exact Nat.le_refl _)]; rfl
      have HBR := HB
      go_wp2_with fail
      go_ret
      rw [HV.out]
      exact ⟨rfl, HBW.out.trans (HBR.out.mono HBW.out.size)⟩
end Go.Proofs.YtkmcohnhanphdaaGreatDoor
/- checkClip. -/
namespace Go.Proofs.YtkmcohnhanphdaaGreatDoor
open Go.RowKit Go.Dw
def rangeC (c : Cp) (tracks : Int) : Prop := (0 ≤ c.chan ∧ c.chan < 16) ∧ (0 ≤ c.from_ ∧ c.from_ ≤ 10000000000000) ∧ (0 ≤ c.track ∧ c.track < tracks) ∧ (0 ≤ c.at_ ∧ c.at_ < 100000) ∧ (1 ≤ c.len ∧ c.len ≤ 100000 - c.at_) ∧ c.from_ + c.len ≤ 10000000000000
open Classical in
noncomputable def clipF (c : Cp) (tracks : Int) : Int := if nameN c.media.data.toList = false then 5 else if ¬ rangeC c tracks then 1 else envF c.len c.env
def CpFits (c : Cp) : Prop := c.media.size ≤ maxLen ∧ ∀ p ∈ c.env, p.num.size ≤ maxLen ∧ p.den.size ≤ maxLen
set_option maxRecDepth 100000 in
set_option maxHeartbeats 8000000 in
theorem CHECKCLIP_any (c : Cp) (A : Option Addr) (n cap : Nat) (tracks : Int) (hz : Hid (CpFits c)) (w : World) (B : Nat) (hB : B ≤ w.heap.size) (hh : Hid (PtsAt w B A n c.env)) :
    Calls Tryz.prog 48 #[cpV c (.slice A n cap), .int .i64 tracks] w fun e w' => e = .returned (.int .i64 (clipF c tracks)) ∧ Below w.heap.size w w' := by
  obtain ⟨m, ch, fr, tr, at9, ln, env⟩ := c
  unfold cpV
  obtain ⟨hz1, hz2⟩ := hz.out
  dsimp only at hz1 hz2 hh ⊢
  have HZ2 := Lib.hid hz2
  clear hz2 hz
  obtain ⟨W, g1, hW, hg1, HG, HBW, HSW⟩ := cell_new w 58 #[.string m, .int .i64 ch, .int .i64 fr, .int .i64 tr, .int .i64 at9, .int .i64 ln, .slice A n cap]
  obtain ⟨p0, p1, p2, p3, p4, p5, p6⟩ := seven_cells HG.out
  have hhW : Hid (PtsAt W B A n env) := hh.out.below HBW.out hB
  have hBW : B ≤ W.heap.size := Nat.le_trans hB HBW.out.size
  have hg1W := blk_lt HG.out
  have hz1' : m.size ≤ 9223372036854775807 := by unfold maxLen at hz1; omega
  obtain ⟨nm, hnm⟩ : ∃ nm, nameN m.data.toList = nm := ⟨_, rfl⟩
  have HNM := Lib.hid hnm
  clear hnm hz1
  go_enter Tryz.func48, Tryz.ntmps48
  go_upto_region 1 with (fail)
  rw [← hW, ← hg1]
  clear hW hg1
  go_wp2_with fail
  refine (SISNAME_any m hz1' W).mono ?_
  rintro e w1 ⟨rfl, hb1⟩
  rw [HNM.out]
  have q1 := (hb1.cell (p := ⟨g1, 1, none⟩) hg1W).trans p1
  have q2 := (hb1.cell (p := ⟨g1, 2, none⟩) hg1W).trans p2
  have q3 := (hb1.cell (p := ⟨g1, 3, none⟩) hg1W).trans p3
  have q4 := (hb1.cell (p := ⟨g1, 4, none⟩) hg1W).trans p4
  have q5 := (hb1.cell (p := ⟨g1, 5, none⟩) hg1W).trans p5
  have q6 := (hb1.cell (p := ⟨g1, 6, none⟩) hg1W).trans p6
  have q0 := (hb1.cell (p := ⟨g1, 0, none⟩) hg1W).trans p0
  have HB1 := Lib.hid hb1
  have hhW := Lib.hid (hhW.out.below hb1 hBW)
  have HBR := Lib.hid (HBW.out.trans (hb1.mono HBW.out.size))
  have hB1 := Nat.le_trans hBW hb1.size
  clear hb1 p0 p1 p2 p3 p4 p5 p6 HG
  cases nm with
  | false =>
    have HV : Hid (clipF ⟨m, ch, fr, tr, at9, ln, env⟩ tracks = 5) := by
      show _ = _
      unfold clipF
      rw [if_pos HNM.out]
    go_wp2_with fail
    go_ret
    rw [HV.out]
    exact ⟨rfl, HBR.out⟩
  | true =>
    go_upto_region 3 with (fail)
    by_cases h1a : ch < 0
    · have HV : Hid (clipF ⟨m, ch, fr, tr, at9, ln, env⟩ tracks = 1) := by
        show _ = _
        unfold clipF rangeC
        dsimp only
        rw [HNM.out, if_neg (by simp), if_pos (by omega)]
      skip
      go_wp2_with fail
      go_ret
      rw [HV.out]
      exact ⟨rfl, HBR.out⟩
    by_cases h1b : 16 ≤ ch
    · have HV : Hid (clipF ⟨m, ch, fr, tr, at9, ln, env⟩ tracks = 1) := by
        show _ = _
        unfold clipF rangeC
        dsimp only
        rw [HNM.out, if_neg (by simp), if_pos (by omega)]
      skip
      go_wp2_with fail
      go_ret
      rw [HV.out]
      exact ⟨rfl, HBR.out⟩
    have d1 : decide (ch < 0) = false := by simp; omega
    have d2 : decide (16 ≤ ch) = false := by simp; omega
    go_upto_region 4 with (fail)
    clear d1 d2
    by_cases h2a : fr < 0
    · have HV : Hid (clipF ⟨m, ch, fr, tr, at9, ln, env⟩ tracks = 1) := by
        show _ = _
        unfold clipF rangeC
        dsimp only
        rw [HNM.out, if_neg (by simp), if_pos (by omega)]
      skip
      go_wp2_with fail
      go_ret
      rw [HV.out]
      exact ⟨rfl, HBR.out⟩
    by_cases h2b : 10000000000000 < fr
    · have HV : Hid (clipF ⟨m, ch, fr, tr, at9, ln, env⟩ tracks = 1) := by
        show _ = _
        unfold clipF rangeC
        dsimp only
        rw [HNM.out, if_neg (by simp), if_pos (by omega)]
      skip
      go_wp2_with fail
      go_ret
      rw [HV.out]
      exact ⟨rfl, HBR.out⟩
    have d1 : decide (fr < 0) = false := by simp; omega
    have d2 : decide (10000000000000 < fr) = false := by simp; omega
    go_upto_region 5 with (fail)
    clear d1 d2
    by_cases h3a : tr < 0
    · have HV : Hid (clipF ⟨m, ch, fr, tr, at9, ln, env⟩ tracks = 1) := by
        show _ = _
        unfold clipF rangeC
        dsimp only
        rw [HNM.out, if_neg (by simp), if_pos (by omega)]
      skip
      go_wp2_with fail
      go_ret
      rw [HV.out]
      exact ⟨rfl, HBR.out⟩
    by_cases h3b : tracks ≤ tr
    · have HV : Hid (clipF ⟨m, ch, fr, tr, at9, ln, env⟩ tracks = 1) := by
        show _ = _
        unfold clipF rangeC
        dsimp only
        rw [HNM.out, if_neg (by simp), if_pos (by omega)]
      skip
      go_wp2_with fail
      go_ret
      rw [HV.out]
      exact ⟨rfl, HBR.out⟩
    have d1 : decide (tr < 0) = false := by simp; omega
    have d2 : decide (tracks ≤ tr) = false := by simp; omega
    go_upto_region 6 with (fail)
    clear d1 d2
    by_cases h4a : at9 < 0
    · have HV : Hid (clipF ⟨m, ch, fr, tr, at9, ln, env⟩ tracks = 1) := by
        show _ = _
        unfold clipF rangeC
        dsimp only
        rw [HNM.out, if_neg (by simp), if_pos (by omega)]
      skip
      go_wp2_with fail
      go_ret
      rw [HV.out]
      exact ⟨rfl, HBR.out⟩
    by_cases h4b : 100000 ≤ at9
    · have HV : Hid (clipF ⟨m, ch, fr, tr, at9, ln, env⟩ tracks = 1) := by
        show _ = _
        unfold clipF rangeC
        dsimp only
        rw [HNM.out, if_neg (by simp), if_pos (by omega)]
      skip
      go_wp2_with fail
      go_ret
      rw [HV.out]
      exact ⟨rfl, HBR.out⟩
    have d1 : decide (at9 < 0) = false := by simp; omega
    have d2 : decide (100000 ≤ at9) = false := by simp; omega
    go_upto_region 7 with (fail)
    clear d1 d2
    by_cases h5a : ln < 1
    · have HV : Hid (clipF ⟨m, ch, fr, tr, at9, ln, env⟩ tracks = 1) := by
        show _ = _
        unfold clipF rangeC
        dsimp only
        rw [HNM.out, if_neg (by simp), if_pos (by omega)]
      skip
      go_wp2_with fail
      go_ret
      rw [HV.out]
      exact ⟨rfl, HBR.out⟩
    by_cases h5b : 100000 - at9 < ln
    · have HV : Hid (clipF ⟨m, ch, fr, tr, at9, ln, env⟩ tracks = 1) := by
        show _ = _
        unfold clipF rangeC
        dsimp only
        rw [HNM.out, if_neg (by simp), if_pos (by omega)]
      skip
      go_wp2_with fail
      go_ret
      rw [HV.out]
      exact ⟨rfl, HBR.out⟩
    have d1 : decide (ln < 1) = false := by simp; omega
    have d2 : decide (100000 - at9 < ln) = false := by simp; omega
    go_upto_region 8 with (fail)
    clear d1 d2
    by_cases h6a : 10000000000000 < fr + ln
    · have HV : Hid (clipF ⟨m, ch, fr, tr, at9, ln, env⟩ tracks = 1) := by
        show _ = _
        unfold clipF rangeC
        dsimp only
        rw [HNM.out, if_neg (by simp), if_pos (by omega)]
      skip
      go_wp2_with fail
      go_ret
      rw [HV.out]
      exact ⟨rfl, HBR.out⟩
    have HV : Hid (clipF ⟨m, ch, fr, tr, at9, ln, env⟩ tracks = envF ln env) := by
      show _ = _
      unfold clipF rangeC
      dsimp only
      rw [HNM.out, if_neg (by simp), if_neg (by omega)]
    have d1 : decide (10000000000000 < fr + ln) = false := by simp; omega
    go_wp2_with fail
    refine (CHECKENV_any ⟨m, ch, fr, tr, at9, ln, env⟩ A n cap (Lib.hid HZ2.out) w1 B hB1 hhW).mono ?_
    rintro e w2 ⟨rfl, hb2⟩
    have HBR := Lib.hid (HBR.out.trans (hb2.mono HBR.out.size))
    clear hb2
    dsimp only
    go_wp2_with fail
    go_ret
    rw [HV.out]
    exact ⟨rfl, HBR.out⟩
end Go.Proofs.YtkmcohnhanphdaaGreatDoor
/- edit.Check. -/
namespace Go.Proofs.YtkmcohnhanphdaaGreatDoor
open Go.RowKit Go.Dw
def prevC (l : List Cp) (k : Nat) : Option Cp := if k = 0 then none else some (cpOf l (k - 1))
def beforeC (prev : Option Cp) (c : Cp) : Bool := match prev with
  | none => false
  | some p => decide (0 < cmpC p c)
open Classical in
noncomputable def chkC (tracks : Int) (prev : Option Cp) (c : Cp) : Int := if clipF c tracks ≠ 0 then clipF c tracks else if beforeC prev c = true then 8 else 0
open Classical in
noncomputable def chkCL (tracks : Int) : Option Cp → List Cp → Int
  | _, [] => 0
  | prev, c :: t => if chkC tracks prev c ≠ 0 then chkC tracks prev c else chkCL tracks (some c) t
open Classical in
noncomputable def chkE (rate tracks : Int) (l : List Cp) : Int := if rateB rate = false ∨ tracks < 1 ∨ 16 < tracks then 1 else if 300 < l.length then 2 else chkCL tracks none l
theorem chk_stop {tr x : Int} {l : List Cp} {k : Nat} (hk : k < l.length) (h : chkC tr (prevC l k) (cpOf l k) = x) (hx : x ≠ 0) : chkCL tr (prevC l k) (l.drop k) = x := by
  rw [drop_cp hk, chkCL, h, if_pos hx]
theorem chk_step {tr : Int} {l : List Cp} {k : Nat} (hk : k < l.length) (h : chkC tr (prevC l k) (cpOf l k) = 0) : chkCL tr (prevC l k) (l.drop k) = chkCL tr (prevC l (k + 1)) (l.drop (k + 1)) := by
  rw [drop_cp hk, chkCL, h, if_neg (by simp)]
  simp [prevC]
set_option maxRecDepth 100000 in
set_option maxHeartbeats 8000000 in
theorem ECHECK_any (rate tracks : Int) (A : Option Addr) (n cap : Nat) (l : List Cp) (hz : Hid (∀ c ∈ l, CpFits c)) (w : World) (B : Nat) (hB : B ≤ w.heap.size) (hh : Hid (ClipsAt w B A n l)) :
    Calls Tryz.prog 17 #[.agg #[.int .i64 rate, .int .i64 tracks, .slice A n cap]] w fun e w' => e = .returned (.int .i64 (chkE rate tracks l)) ∧ Below w.heap.size w w' := by
  have hl := Lib.hid hh.out.1
  obtain ⟨W, g1, hW, hg1, HG, HBW, HSW⟩ := cell_new w 24 #[.int .i64 rate, .int .i64 tracks, .slice A n cap]
  obtain ⟨p0, p1, p2, _, _, _⟩ := three_cells HG.out
  have hhW : Hid (ClipsAt W B A n l) := hh.out.below HBW.out hB
  have hBW : B ≤ W.heap.size := Nat.le_trans hB HBW.out.size
  have hg1W := blk_lt HG.out
  have HBR : Hid (Below W.heap.size W W) := Below.refl _ _
  obtain ⟨br, hbr⟩ : ∃ br, rateB rate = br := ⟨_, rfl⟩
  have HR := Lib.hid hbr
  go_enter Tryz.func17, Tryz.ntmps17
  go_upto_region 1 with (fail)
  rw [← hW, ← hg1]
  clear hW hg1
  cases br with
  | false =>
    have HV : Hid (chkE rate tracks l = 1) := by show _ = _; unfold chkE; rw [if_pos (.inl HR.out)]
    go_wp2_with (go_at_call 39; refine (ISRATE_eq _ _ hbr _).mono ?_; rintro e w' ⟨rfl, rfl⟩)
    go_ret
    rw [HV.out]
    exact ⟨rfl, HBW.out.trans (HBR.out.mono HBW.out.size)⟩
  | true =>
    by_cases h1 : tracks < 1
    · have HV : Hid (chkE rate tracks l = 1) := by show _ = _; unfold chkE; rw [if_pos (.inr (.inl h1))]
      go_wp2_with (go_at_call 39; refine (ISRATE_eq _ _ hbr _).mono ?_; rintro e w' ⟨rfl, rfl⟩)
      go_ret
      rw [HV.out]
      exact ⟨rfl, HBW.out.trans (HBR.out.mono HBW.out.size)⟩
    by_cases h2 : 16 < tracks
    · have HV : Hid (chkE rate tracks l = 1) := by show _ = _; unfold chkE; rw [if_pos (.inr (.inr h2))]
      go_wp2_with (go_at_call 39; refine (ISRATE_eq _ _ hbr _).mono ?_; rintro e w' ⟨rfl, rfl⟩)
      go_ret
      rw [HV.out]
      exact ⟨rfl, HBW.out.trans (HBR.out.mono HBW.out.size)⟩
    have HC1 : Hid (¬ (rateB rate = false ∨ tracks < 1 ∨ 16 < tracks)) := by show ¬ _; rw [hbr]; simp; omega
    have d1 : decide (tracks < 1) = false := by simp; omega
    have d2 : decide (16 < tracks) = false := by simp; omega
    by_cases h3 : 300 < n
    · have HV : Hid (chkE rate tracks l = 2) := by show _ = _; unfold chkE; rw [if_neg HC1.out, if_pos (by rw [hl.out]; exact h3)]
      have d3 : decide ((300 : Int) < (n : Int)) = true := by simp; omega
      clear h1 h2 h3
      go_wp2_with (go_at_call 39; refine (ISRATE_eq _ _ hbr _).mono ?_; rintro e w' ⟨rfl, rfl⟩)
      go_ret
      rw [HV.out]
      exact ⟨rfl, HBW.out.trans (HBR.out.mono HBW.out.size)⟩
    have d3 : decide ((300 : Int) < (n : Int)) = false := by simp; omega
    have HE0 : Hid (chkE rate tracks l = chkCL tracks none l) := by show _ = _; unfold chkE; rw [if_neg HC1.out, if_neg (by rw [hl.out]; exact h3)]
    have hn3 : n ≤ 300 := by omega
    clear h1 h2 h3
    go_wp2_with (go_at_call 39; refine (ISRATE_eq _ _ hbr _).mono ?_; rintro e w' ⟨rfl, rfl⟩)
    clear hbr d1 d2 d3 HBR
    have P1 := Lib.hid p1
    have P2 := Lib.hid p2
    clear p0 p1 p2
    go_loopw [27] (fun i wr => ∃ k : Nat, k ≤ n ∧ i = .int .i64 k ∧ Hid (chkCL tracks none l = chkCL tracks (prevC l k) (l.drop k)) ∧ Hid (Below W.heap.size W wr)) (fun i _ => n - (intOf i).toNat)
    case atStart => exact ⟨0, Nat.zero_le _, rfl, (by show _ = _; rw [List.drop_zero]; rfl), Below.refl _ _⟩
    case round =>
      obtain ⟨k, hk, rfl, HE, HB⟩ := hrel
      have hsz := HB.out.size
      by_cases hlt : k < n
      · have hk0 : (0 : Int) ≤ (k : Int) := by omega
        have hkn : (k : Int) < (n : Int) := by omega
        obtain ⟨b, o, A', n', c', e, hb, hk7, hn', hc', hp⟩ := (hhW.out.below (HB.out.mono hBW) (Nat.le_refl _)).2 k hlt
        subst e
        obtain ⟨k0, k1, k2, k3, k4, k5, k6⟩ := hk7
        have HZ := Lib.hid (hz.out _ (cp_mem (by rw [hl.out]; exact hlt)))
        obtain ⟨c, hc⟩ : ∃ c, cpOf l k = c := ⟨_, rfl⟩
        have HC := Lib.hid hc
        rw [hc] at k0 k1 k2 k3 k4 k5 HZ hp
        clear hc
        have HP := Lib.hid hp
        clear hp
        go_upto_region 8 with (fail)
        obtain ⟨X, g4, hX, hg4, HX, HBX, HSX⟩ := cell_new wr 58 #[.string c.media, .int .i64 c.chan, .int .i64 c.from_, .int .i64 c.track, .int .i64 c.at_, .int .i64 c.len, .slice A' n' c']
        rw [← hX, ← hg4]
        have HBR := Lib.hid (HB.out.trans (HBX.out.mono hsz))
        obtain ⟨x0, x1, x2, x3, x4, x5, x6⟩ := seven_cells HX.out
        have hg4X := blk_lt HX.out
        have p1 := (HBR.out.cell (p := ⟨g1, 1, none⟩) hg1W).trans P1.out
        have HPX : Hid (PtsAt X B A' n' c.env) := HP.out.below (HBX.out.mono (Nat.le_trans hBW hsz)) (Nat.le_refl _)
        have hBX : B ≤ X.heap.size := Nat.le_trans hBW HBR.out.size
        clear hX hg4 HSX k0 k1 k2 k3 k4 k5 k6
        go_wp2_with fail
        refine (CHECKCLIP_any c A' n' c' tracks HZ X B hBX HPX).mono ?_
        rintro e w1 ⟨rfl, hb1⟩
        obtain ⟨f, hf⟩ : ∃ f, clipF c tracks = f := ⟨_, rfl⟩
        rw [hf]
        have HF := Lib.hid hf
        clear hf
        by_cases hf0 : f = 0
        case neg =>
          have hq : (f != 0) = true := by simpa using hf0
          have HV : Hid (chkE rate tracks l = f) := by
              show _ = _
              rw [HE0.out, HE.out]
              refine chk_stop (by rw [hl.out]; exact hlt) ?_ hf0
              unfold chkC
              rw [HC.out]
              rw [HF.out, if_pos hf0]
          have HBR := Lib.hid (HBR.out.trans (hb1.mono HBR.out.size))
          clear hf0 hb1
          go_wp2_with fail
          go_ret
          rw [HV.out]
          exact ⟨rfl, HBW.out.trans (HBR.out.mono HBW.out.size)⟩
        subst hf0
        have q0 := (hb1.cell (p := ⟨g4, 0, none⟩) hg4X).trans x0
        have q1 := (hb1.cell (p := ⟨g4, 1, none⟩) hg4X).trans x1
        have q2 := (hb1.cell (p := ⟨g4, 2, none⟩) hg4X).trans x2
        have q3 := (hb1.cell (p := ⟨g4, 3, none⟩) hg4X).trans x3
        have q4 := (hb1.cell (p := ⟨g4, 4, none⟩) hg4X).trans x4
        have q5 := (hb1.cell (p := ⟨g4, 5, none⟩) hg4X).trans x5
        have q6 := (hb1.cell (p := ⟨g4, 6, none⟩) hg4X).trans x6
        have hg4w1 : g4 < w1.heap.size := Nat.lt_of_lt_of_le hg4X hb1.size
        have HBR := Lib.hid (HBR.out.trans (hb1.mono HBR.out.size))
        have p2 := (HBR.out.cell (p := ⟨g1, 2, none⟩) hg1W).trans P2.out
        have hg1w1 : g1 < w1.heap.size := Nat.lt_of_lt_of_le hg1W HBR.out.size
        clear hb1 x0 x1 x2 x3 x4 x5 x6 p1 HX HBX
        by_cases hk00 : k = 0
        · have HNB : Hid (beforeC (prevC l k) c = false) := by show _ = _; rw [hk00]; rfl
          have hg0 : decide (0 < k) = false := by simp; omega
          clear hk00
          go_upto_region 11 with (fail)
          go_quiet (fail)
          obtain ⟨Y, hY⟩ : ∃ Y, Y = w1.drewN nq := ⟨_, rfl⟩
          have HBY : Hid (Below w1.heap.size w1 Y) := by rw [hY]; exact belowN (Below.refl _ _) _
          have HBR := Lib.hid (HBR.out.trans (HBY.out.mono HBR.out.size))
          rw [← hY]
          clear hY q0 q1 q2 q3 q4 q5 q6 p2
          have HE2 : Hid (chkCL tracks none l = chkCL tracks (prevC l (k + 1)) (l.drop (k + 1))) := by
              show _ = _
              rw [HE.out]
              refine chk_step (by rw [hl.out]; exact hlt) ?_
              unfold chkC
              rw [HC.out, HF.out, if_neg (by simp), if_neg (by rw [HNB.out]; simp)]
          go_wp2_with fail
          go_roundw
          case rel => exact ⟨k + 1, by omega, by go_num, HE2, HBR⟩
          case measure => simp [intOf]; omega
        · obtain ⟨j, rfl⟩ : ∃ j, k = j + 1 := ⟨k - 1, by omega⟩
          obtain ⟨b9, o9, A9, n9, c9, e9, hb9, hj7, _, _, _⟩ := (hhW.out.below (HBR.out.mono hBW) (Nat.le_refl _)).2 j (by omega)
          cases e9
          obtain ⟨j0, j1, j2, j3, j4, j5, j6⟩ := hj7
          have HPJ : Hid (beforeC (prevC l (j + 1)) c = decide (0 < cmpC (cpOf l j) c)) := by show _ = _; simp [beforeC, prevC]
          obtain ⟨pj, hpj⟩ : ∃ pj, cpOf l j = pj := ⟨_, rfl⟩
          rw [hpj] at j0 j1 j2 j3 j4 j5 HPJ
          clear hpj hk00
          have hji : IntKind.i64.wrap (j : Int) = (j : Int) := IntWalk.i64_in _ (by omega)
          have hjn : (j : Int) < (n : Int) := by omega
          have hj0 : (0 : Int) ≤ (j : Int) := by omega
          have hbw1 : b < w1.heap.size := by have := hsz; have := HBR.out.size; omega
          obtain ⟨cm, hcm⟩ : ∃ cm, cmpC pj c = cm := ⟨_, rfl⟩
          rw [hcm] at HPJ
          have HCM := Lib.hid hcm
          clear hcm
          go_upto_region 11 with (fail)
          by_cases hcm0 : 0 < cm
          case neg =>
            have HNB : Hid (beforeC (prevC l (j + 1)) c = false) := by show _ = _; rw [HPJ.out]; simpa using hcm0
            have d1 : decide (0 < cm) = false := by simpa using hcm0
            clear hcm0
            go_region_held3 (fun w' => Below w1.heap.size w1 w' ∧ ∀ z : Addr, z.block < w1.heap.size → w'.cell? z = w1.cell? z)
              ((first | exact ⟨(Below.refl _ _).drew, pcell (Below.refl _ _).drew⟩ | exact ⟨by assumption, pcell (by assumption)⟩))
              (first | (go_at_call 49; refine (ECOMPARE_any pj c _ _ _).mono ?_; rintro e w5 ⟨rfl, hb5⟩; rw [HCM.out]; have hbS := Below.next (‹Below w1.heap.size w1 _ ∧ _›).1 (Nat.le_refl _) hb5))
            have HBR := Lib.hid (HBR.out.trans (hbS.mono HBR.out.size))
            clear j0 j1 j2 j3 j4 j5 j6 q0 q1 q2 q3 q4 q5 q6 p2 hji
            have HE2 : Hid (chkCL tracks none l = chkCL tracks (prevC l ((j + 1) + 1)) (l.drop ((j + 1) + 1))) := by
                show _ = _
                rw [HE.out]
                refine chk_step (by rw [hl.out]; exact hlt) ?_
                unfold chkC
                rw [HC.out, HF.out, if_neg (by simp), if_neg (by rw [HNB.out]; simp)]
            go_wp2_with fail
            go_roundw
            case rel => exact ⟨j + 1 + 1, by omega, by go_num, HE2, HBR⟩
            case measure => simp [intOf]; omega
          have d1 : decide (0 < cm) = true := by simpa using hcm0
          have HV : Hid (chkE rate tracks l = 8) := by
              show _ = _
              rw [HE0.out, HE.out]
              refine chk_stop (by rw [hl.out]; exact hlt) ?_ (by decide)
              unfold chkC
              rw [HC.out]
              rw [HF.out, if_neg (by simp), if_pos (by rw [HPJ.out]; exact d1)]
          clear hcm0
          go_region_held3 (fun w' => Below w1.heap.size w1 w' ∧ ∀ z : Addr, z.block < w1.heap.size → w'.cell? z = w1.cell? z)
            ((first | exact ⟨(Below.refl _ _).drew, pcell (Below.refl _ _).drew⟩ | exact ⟨by assumption, pcell (by assumption)⟩))
            (first | (go_at_call 49; refine (ECOMPARE_any pj c _ _ _).mono ?_; rintro e w5 ⟨rfl, hb5⟩; rw [HCM.out]; have hbS := Below.next (‹Below w1.heap.size w1 _ ∧ _›).1 (Nat.le_refl _) hb5))
          have HBR := Lib.hid (HBR.out.trans (hbS.mono HBR.out.size))
          clear j0 j1 j2 j3 j4 j5 j6 q0 q1 q2 q3 q4 q5 q6 p2 hji
          go_wp2_with fail
          go_ret
          rw [HV.out]
          exact ⟨rfl, HBW.out.trans (HBR.out.mono HBW.out.size)⟩
      · obtain rfl : k = n := by omega
        have HV : Hid (chkE rate tracks l = 0) := by show _ = _; rw [HE0.out, HE.out, List.drop_of_length_le (by rw [hl.out]; exact Nat.le_refl _)]; rfl
        have HBR := HB
        go_wp2_with fail
        go_ret
        rw [HV.out]
        exact ⟨rfl, HBW.out.trans (HBR.out.mono HBW.out.size)⟩
end Go.Proofs.YtkmcohnhanphdaaGreatDoor
