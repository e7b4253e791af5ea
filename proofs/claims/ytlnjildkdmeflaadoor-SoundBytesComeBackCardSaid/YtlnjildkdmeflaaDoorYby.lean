/- Bytes, of the sound. -/
import Derived.Test.YtlnjildkdmeflaaDoorYck
import Derived.Test.YtlnjildkdmeflaaDoorPack1
import Derived.Test.YtlnjildkdmeflaaDoorWf
import Derived.Maps.OwnSet
import Derived.Maps.OwnOps
import Derived.Maps.Views
import Derived.Carry
import Derived.StringKeys
set_option linter.unusedSimpArgs false
set_option linter.unusedVariables false
namespace Go.Dw
open Go.RowKit Go.Maps
theorem map_keep {H : Type} {w w' : World} {P : Program} {k : TypeId} {R : Value → Option (DataW H × List MemPlace)} {b n : Nat} {D : DataW H} (h : w.ownsMap P k R b n D) (hb : w'.heap[b]? = w.heap[b]?) : w'.ownsMap P k R b n D := by
  obtain ⟨es, clock, h0, r⟩ := h
  exact ⟨es, clock, hb.trans h0, r⟩
theorem boolElem_inv {H : Type} {P : Program} {e : TypeId} (he : P.underlying e = some .bool) {v : Value} {z : DataW H × List MemPlace} (h : plainElem P e v = some z) : ∃ x, v = .bool x ∧ z = (.lit (.bool x), []) := by
  unfold plainElem at h
  rw [he] at h
  cases v <;> simp at h
  exact ⟨_, rfl, h.symm⟩
theorem wpList_look_bool {H : Type} {P : Program} (w : World) {a : Act} {Q : Exit → Act → World → Prop} {o : Oper} {ops : Array Oper} {rest : List Oper} (hg : o.guard = none) (m x : Operand) (t : TypeId) (hop : o.op = Op.lookup t m x false)
    (k e : TypeId) (KK : Keyed P k) (ht : P.underlying t = some (.map k e)) (he : P.underlying e = some .bool) (hz : (zeroValue e).run P w = .ok (.bool false) w) (b n : Nat) (D : DataW H)
    (hm : a.eval m = .map (some b)) (hown : w.ownsMap P k (plainElem P e) b n D) (key : Value) (kl : Lit) (hx : a.eval x = key) (hkey : keyOf P k key = some kl)
    (hK : ∀ c : Bool, D.atKey kl (.lit (.bool false)) = .lit (.bool c) → wpList P ops Q rest (a.put o.dst (.bool c)) w) : wpList P ops Q (o :: rest) a w := by
  refine wpList_plain hg fun K' hK' => ?_
  obtain ⟨v, ps, hrun, hv⟩ := hown.lookup KK ht hz (plainElem_bool he false) hkey
  obtain ⟨c, rfl, hc⟩ := boolElem_inv he hv
  unfold Oper.wp
  simp [execOp, hop, hm, hx, hrun, Result.andThen]
  exact hK' _ _ (hK c (congrArg Prod.fst hc))
end Go.Dw
namespace Go.Proofs.YtlnjildkdmeflaaDoor
open Go.RowKit Go.Dw Go.Maps Go.MapKept
def OutY (w : World) (z : By × Int) (e : Ending) (w' : World) : Prop := ∃ v, e = .returned (.tuple #[v, .int .i64 z.2]) ∧ OwnBys w' w.heap.size v z.1 ∧ Below w.heap.size w w'
theorem OutY.none {w w' : World} {f : Int} (hb : Below w.heap.size w w') : OutY w ([], f) (.returned (.tuple #[.slice none 0 0, .int .i64 f])) w' := ⟨_, rfl, World.ownsRow_nil _ _ _ _, hb⟩
theorem zeroBo (w : World) : (zeroValue 4).run Tryd.prog w = .ok (.bool false) w := by kernel_rfl
theorem even_bad {xss : List (List Int)} {k j : Nat} (hk : k < xss.length) (hj : j < (rowOf xss k).length) (h : elOf (rowOf xss k) j % 256 ≠ 0) : evenB xss = false := by
  unfold evenB
  rw [List.all_eq_false]
  refine ⟨rowOf xss k, by simp [rowOf, List.getD, List.getElem?_eq_getElem hk], ?_⟩
  rw [Bool.not_eq_true, List.all_eq_false]
  exact ⟨elOf (rowOf xss k) j, by simp [elOf, List.getD, List.getElem?_eq_getElem hj], by simpa using h⟩
theorem even_all {xss : List (List Int)} {n m : Nat} (hn : xss.length = n) (hm : ∀ k, k < n → (rowOf xss k).length = m) (h : ∀ k j, k < n → j < m → elOf (rowOf xss k) j % 256 = 0) : evenB xss = true := by
  unfold evenB
  rw [List.all_eq_true]
  intro l hl
  rw [List.all_eq_true]
  intro x hx
  obtain ⟨k, hk, rfl⟩ := List.getElem_of_mem hl
  obtain ⟨j, hj, rfl⟩ := List.getElem_of_mem hx
  have e : rowOf xss k = xss[k] := by simp [rowOf, List.getD, List.getElem?_eq_getElem hk]
  have h1 := hm k (by omega)
  rw [e] at h1
  have h2 := h k j (by omega) (by omega)
  rw [e] at h2
  simp [elOf, List.getD, List.getElem?_eq_getElem hj] at h2
  simpa using h2
def evAt (b x : Int) : Prop := b = 16 → x % 256 = 0
theorem tmod_zero {y : Int} : (y.tmod 256 != 0) = decide (y % 256 ≠ 0) := by
  rw [Bool.eq_iff_iff]
  simp only [bne_iff_ne, ne_eq, decide_eq_true_eq]
  rw [← Int.dvd_iff_tmod_eq_zero, Int.dvd_iff_emod_eq_zero]
theorem one_box (w : World) (o : Obj) : ∃ W g, W = w.alloc o ∧ g = w.heap.size ∧ Hid (W.heap[g]? = some o) ∧ Hid (Below w.heap.size w W) ∧ Hid (W.heap.size = w.heap.size + 1) :=
  ⟨_, _, rfl, rfl, heap_alloc_new _ _, (Below.refl _ _).alloc (Nat.le_refl _) _, by show _ = _; simp⟩
theorem own_ne_map {w : World} {B b n size : Nat} {e : TypeId} {v : Value} {xs : List Value} {es : Array MapEntry} {ck : Nat} (h : w.ownsRow B e size v n xs) (hm : w.heap[b]? = some (.map es ck)) : v.ownBlock ≠ some b := by
  intro e9
  rcases h.2 with ⟨rfl, _⟩ | ⟨g, cap, cur, rfl, _, hh, _⟩
  · simp [Value.ownBlock] at e9
  · simp only [Value.ownBlock, Option.some.injEq] at e9
    subst e9
    rw [hh] at hm
    injection hm with hm
    cases hm
theorem CksR.kept_map {H : Type} {w w' : World} {B b n : Nat} {v : Value} {l : List Ck} {rows : List Value} {k : TypeId} {R : Value → Option (DataW H × List MemPlace)} {D : DataW H} (h : CksR w B v l rows) (hm : w.ownsMap Tryd.prog k R b n D) (hg : w.grownBy w' (some b)) : CksR w' B v l rows := by
  obtain ⟨es, ck, hb, _⟩ := hm
  refine ⟨h.outer.kept hg (.inr (own_ne_map h.outer hb)), h.len, fun k r hr => (h.inner k r hr).keep fun b9 cs fr hh => hg.block b9 (Array.getElem?_eq_some_iff.1 hh).1 (fun e => ?_)⟩
  injection e with e
  subst e
  rw [hh] at hb
  injection hb with hb
  cases hb
theorem noteS_zero {a b : By} (h : noteS a b = 0) : nameN a = true ∧ textN b = true ∧ a.length ≤ 40 ∧ b.length ≤ 200 := by
  unfold noteS at h
  cases h1 : nameN a with
  | false => rw [h1] at h; simp at h
  | true =>
    cases h2 : textN b with
    | false => rw [h1, h2] at h; simp at h
    | true =>
      rw [h1, h2] at h
      simp at h
      refine ⟨rfl, rfl, ?_, h⟩
      unfold nameN at h1
      simp at h1
      exact h1.1.2
theorem notesF_zero : ∀ {l pre : List Nx}, notesF pre l = 0 → ∀ x ∈ l, noteX x = 0
  | [], _, _, x, hx => by cases hx
  | n :: t, pre, h, x, hx => by
    unfold notesF at h
    by_cases h1 : noteX n ≠ 0
    · rw [if_pos h1] at h; exact absurd h h1
    · rw [if_neg h1] at h
      by_cases h2 : isIn pre n.1.data.toList = true
      · rw [if_pos h2] at h; exact absurd h (by decide)
      · rw [if_neg h2] at h
        rcases List.mem_cons.1 hx with rfl | hx
        · simpa using h1
        · exact notesF_zero h x hx
theorem noteC_len {x : Nx} (h : noteX x = 0) : (noteC x).2.length ≤ 241 := by
  obtain ⟨_, _, h1, h2⟩ := noteS_zero h
  simp only [noteC, List.length_append, List.length_singleton]
  omega
theorem smpC_len (b x : Int) : (smpC b x).length = (b / 8).toNat := leZ_length _ _
theorem colB_step {b : Int} {xss : List (List Int)} {i a : Nat} (ha : a < xss.length) : (xss.take (a + 1)).flatMap (fun l => smpC b (elOf l i)) = (xss.take a).flatMap (fun l => smpC b (elOf l i)) ++ smpC b (elOf (rowOf xss a) i) := by
  rw [List.take_succ_eq_append_getElem ha, List.flatMap_append]
  have e : rowOf xss a = xss[a] := by simp [rowOf, List.getD, List.getElem?_eq_getElem ha]
  rw [e]
  simp
theorem colB_all {b : Int} {xss : List (List Int)} {i n : Nat} (hn : xss.length = n) : (xss.take n).flatMap (fun l => smpC b (elOf l i)) = colB b xss i := by
  rw [List.take_of_length_le (by omega)]; rfl
theorem dataB_step (b : Int) (xss : List (List Int)) (i : Nat) : dataB b xss (i + 1) = dataB b xss i ++ colB b xss i := by
  unfold dataB
  rw [List.range_succ, List.flatMap_append]
  simp
theorem isIn_snoc (pre : List Nx) (n : Nx) (x : By) : isIn (pre ++ [n]) x = (isIn pre x || decide (n.1.data.toList = x)) := by simp [isIn]
set_option maxRecDepth 100000 in
set_option maxHeartbeats 2000000 in
theorem BYTES_chk (r bits : Int) (A AN : Option Addr) (n c nn cN : Nat) (xss : List (List Int)) (hc : chkS r xss ≠ 0) (w : World) (B : Nat) (hB : B ≤ w.heap.size) (hh : Hid (RowsAt w B A n xss)) :
    Calls Tryd.prog 5 #[.agg #[.int .i64 r, .slice A n c], .int .i64 bits, .slice AN nn cN] w (OutY w ([], chkS r xss)) := by
  have hq : (chkS r xss != 0) = true := by simpa using hc
  clear hc
  obtain ⟨W, gx, hW, hgx, B0, HB⟩ := sbox_new w r (A) n c xss (hh.out.mono hB)
  have hsW : B ≤ W.heap.size := Nat.le_trans hB HB.out.size
  obtain ⟨x0, x1, _, _⟩ := sbox_cells B0.out
  have hbB : Hid (Below B w W) := HB.out.mono hB
  go_enter Tryd.func5, Tryd.ntmps5
  go_upto_region 1 with (fail)
  rw [← hW, ← hgx]
  clear hW hgx
  go_wp2_with fail
  refine (CHECK_any r (A) n c xss _ B hsW (hh.out.below hbB.out (Nat.le_refl _))).mono ?_
  rintro e w1 ⟨rfl, hb1⟩
  have HB1 := Lib.hid (HB.out.trans (hb1.mono HB.out.size))
  have B1 := Lib.hid (B0.out.below hb1)
  clear hb1 x0 x1 B0
  obtain ⟨y0, y1, _, _⟩ := sbox_cells B1.out
  go_wp2_with fail
  refine bodyPost_ret (v := .tuple #[.slice none 0 0, .int .i64 (chkS r xss)]) (by simp [results, Tryd.results5, go_sem]) rfl ?_
  exact OutY.none HB1.out
set_option maxRecDepth 100000 in
set_option maxHeartbeats 2000000 in
theorem BYTES_rng (r bits : Int) (A AN : Option Addr) (n c nn cN : Nat) (xss : List (List Int)) (hc : Hid (chkS r xss = 0)) (hb : bits ≠ 16 ∧ bits ≠ 24) (w : World) (B : Nat) (hB : B ≤ w.heap.size) (hh : Hid (RowsAt w B A n xss)) :
    Calls Tryd.prog 5 #[.agg #[.int .i64 r, .slice A n c], .int .i64 bits, .slice AN nn cN] w (OutY w ([], 1)) := by
  have hq : (chkS r xss != 0) = false := by rw [hc.out]; rfl
  have c1 : (bits != 16) = true := by simpa using hb.1
  have c2 : (bits != 24) = true := by simpa using hb.2
  clear hb
  obtain ⟨W, gx, hW, hgx, B0, HB⟩ := sbox_new w r (A) n c xss (hh.out.mono hB)
  have hsW : B ≤ W.heap.size := Nat.le_trans hB HB.out.size
  obtain ⟨x0, x1, _, _⟩ := sbox_cells B0.out
  have hbB : Hid (Below B w W) := HB.out.mono hB
  go_enter Tryd.func5, Tryd.ntmps5
  go_upto_region 1 with (fail)
  rw [← hW, ← hgx]
  clear hW hgx
  go_wp2_with fail
  refine (CHECK_any r (A) n c xss _ B hsW (hh.out.below hbB.out (Nat.le_refl _))).mono ?_
  rintro e w1 ⟨rfl, hb1⟩
  have HB1 := Lib.hid (HB.out.trans (hb1.mono HB.out.size))
  have B1 := Lib.hid (B0.out.below hb1)
  clear hb1 x0 x1 B0
  obtain ⟨y0, y1, _, _⟩ := sbox_cells B1.out
  go_wp2_with fail
  refine bodyPost_ret (v := .tuple #[.slice none 0 0, .int .i64 1]) (by simp [results, Tryd.results5, go_sem]) rfl ?_
  exact OutY.none HB1.out
set_option maxRecDepth 100000 in
set_option maxHeartbeats 4000000 in
theorem BYTES_16 (r : Int) (ad : Addr) (AN : Option Addr) (n c nn cN : Nat) (xss : List (List Int)) (l : List Nx) (hc : Hid (chkS r xss = 0)) (hz : Hid (∀ x ∈ l, x.1.size ≤ maxLen ∧ x.2.size ≤ maxLen)) (w : World) (B : Nat) (hB : B ≤ w.heap.size) (hh : Hid (RowsAt w B (some ad) n xss)) (HN : Hid (NtsAt w B AN nn l)) :
    Calls Tryd.prog 5 #[.agg #[.int .i64 r, .slice (some ad) n c], .int .i64 16, .slice AN nn cN] w (OutY w (bytesS r xss 16 l)) := by
  have hq : (chkS r xss != 0) = false := by rw [hc.out]; rfl
  have hok := Lib.hid (chkS_ok hc.out)
  have hl := Lib.hid hh.out.1
  have hn16 : n ≤ 16 := by have := hok.out.few; have := hl.out; omega
  have hn0 : 0 < n := by have := hok.out.some; have := hl.out; omega
  have hm := hok.out.long
  obtain ⟨m, hm9⟩ : ∃ m, len0 xss = m := ⟨_, rfl⟩
  have HM := Lib.hid hm9
  rw [hm9] at hm
  clear hm9
  obtain ⟨Z, hZ⟩ : ∃ Z, bytesS r xss 16 l = Z := ⟨_, rfl⟩
  have HZ := Lib.hid hZ
  rw [hZ]
  clear hZ
  obtain ⟨W, gx, hW, hgx, B0, HB⟩ := sbox_new w r (some ad) n c xss (hh.out.mono hB)
  have hsW : B ≤ W.heap.size := Nat.le_trans hB HB.out.size
  obtain ⟨x0, x1, _, _⟩ := sbox_cells B0.out
  have hbB : Hid (Below B w W) := HB.out.mono hB
  go_enter Tryd.func5, Tryd.ntmps5
  go_upto_region 1 with (fail)
  rw [← hW, ← hgx]
  clear hW hgx
  go_wp2_with fail
  refine (CHECK_any r (some ad) n c xss _ B hsW (hh.out.below hbB.out (Nat.le_refl _))).mono ?_
  rintro e w1 ⟨rfl, hb1⟩
  have HB1 := Lib.hid (HB.out.trans (hb1.mono HB.out.size))
  have B1 := Lib.hid (B0.out.below hb1)
  clear hb1 x0 x1 B0
  obtain ⟨y0, y1, _, _⟩ := sbox_cells B1.out
  have hh1 := Lib.hid (hh.out.below (HB1.out.mono hB) (Nat.le_refl _))
  have hBs : B ≤ w1.heap.size := Nat.le_trans hB HB1.out.size
  go_wp2_with fail
  go_loop [36] (fun i => ∃ k : Nat, k ≤ n ∧ i = .int .i64 k ∧ Hid (∀ a j, a < k → j < m → evAt 16 (elOf (rowOf xss a) j))) (fun i => n - (intOf i).toNat)
  case atStart => exact ⟨0, Nat.zero_le _, rfl, fun a j ha => by omega⟩
  case round =>
    obtain ⟨k, hk, rfl, hE⟩ := hrel
    by_cases hlt : k < n
    · have hkx : Hid (k < xss.length) := by show _ < _; rw [hl.out]; exact hlt
      obtain ⟨A', n', c', hadB, hcell, hn', hc', hi'⟩ := hh1.out.row hlt
      obtain rfl : m = n' := ((hok.out.row hkx.out).1.trans HM.out).symm.trans hi'.1
      have HI := Lib.hid hi'
      clear hi'
      unfold maxLen at hc'
      have hki : (k : Int) < (n : Int) := by omega
      have hk0 : (0 : Int) ≤ (k : Int) := by omega
      go_wp2_with fail
      go_loop [42] (fun i => ∃ j : Nat, j ≤ m ∧ i = .int .i64 j ∧ Hid (∀ i, i < j → evAt 16 (elOf (rowOf xss k) i))) (fun i => m - (intOf i).toNat)
      case atStart => exact ⟨0, Nat.zero_le _, rfl, fun i hi => by omega⟩
      case round =>
        obtain ⟨j, hj, rfl, hE2⟩ := hrel
        by_cases hjl : j < m
        · obtain ⟨ad', rfl⟩ := HI.out.addr (by omega)
          have hcell2 := (HI.out.at_ hjl).2
          have hkm : Hid (j < len0 xss) := by show _ < _; rw [HM.out]; exact hjl
          obtain ⟨y1, y2⟩ := hok.out.el hkx.out hkm.out
          obtain ⟨y, hy⟩ : ∃ y, elOf (rowOf xss k) j = y := ⟨_, rfl⟩
          have HY := Lib.hid hy
          rw [hy] at hcell2 y1 y2
          have hji : (j : Int) < (m : Int) := by omega
          have hj0 : (0 : Int) ≤ (j : Int) := by omega
          clear hy
          by_cases hbad : (16 : Int) = 16 ∧ y % 256 ≠ 0
          · first
              | exact absurd hbad.1 (by decide)
              | (have hq2 : (y.tmod 256 != 0) = true := by rw [tmod_zero]; exact decide_eq_true hbad.2
                 have hev := even_bad hkx.out (by rw [(hok.out.row hkx.out).1]; exact hkm.out) (by rw [HY.out]; exact hbad.2)
                 have HV : Hid (Z = ([], 3)) := by
                   show _ = _
                   rw [← HZ.out]
                   unfold bytesS
                   rw [if_neg (by simp [hc.out]), if_neg (by simp), if_pos ⟨rfl, hev⟩]
                 clear hbad hev
                 go_wp2_with fail
                 refine bodyPost_ret (v := .tuple #[.slice none 0 0, .int .i64 3]) (by simp [results, Tryd.results5, go_sem]) rfl ?_
                 rw [HV.out]
                 exact OutY.none HB1.out)
          · have hev : evAt 16 y := fun e => Classical.byContradiction fun h => hbad ⟨e, h⟩
            have hE3 : Hid (∀ i, i < j + 1 → evAt 16 (elOf (rowOf xss k) i)) := fun i hi => by
              by_cases hij : i = j
              · rw [hij, HY.out]; exact hev
              · exact hE2.out i (by omega)
            have hq1 : (16 : Int) = 16 → (y.tmod 256 != 0) = false := fun e => by rw [tmod_zero]; exact decide_eq_false (fun h => h (hev e))
            clear hbad hev
            first
              | (have hq2 := hq1 rfl
                 clear hq1
                 go_wp2_with fail)
              | (clear hq1
                 go_wp2_with fail)
            go_round
            case rel => exact ⟨j + 1, by omega, by go_num, hE3⟩
            case measure => simp [intOf]; omega
        · obtain rfl : j = m := by omega
          have hji : ¬ (j : Int) < (j : Int) := by omega
          go_wp2_with fail
          go_round
          case rel => exact ⟨k + 1, by omega, by go_num, (fun a i ha hi => by
            by_cases hak : a = k
            · rw [hak]; exact hE2.out i hi
            · exact hE.out a i (by omega) hi)⟩
          case measure => simp [intOf]; omega
    · obtain rfl : k = n := by omega
      have hki : ¬ (k : Int) < (k : Int) := by omega
      have HEV : Hid (¬ ((16 : Int) = 16 ∧ evenB xss = false)) := fun h => by
        have := even_all hl.out (fun a ha => (hok.out.row (show a < xss.length by rw [hl.out]; exact ha)).1.trans HM.out) (fun a j ha hj => hE.out a j ha hj h.1)
        rw [this] at h
        exact absurd h.2 (by decide)
      clear hE
      have HNL : Hid (l.length = nn) := HN.out.1
      go_upto_region 16 with fail
      by_cases hlen : 50 < nn
      · have hi : (50 : Int) < (nn : Int) := by omega
        have HV : Hid (Z = ([], 2)) := by
          show _ = _
          rw [← HZ.out]
          unfold bytesS
          rw [if_neg (by simp [hc.out]), if_neg (by simp), if_neg HEV.out, if_pos (by rw [HNL.out]; exact hlen)]
        go_wp2_with fail
        refine bodyPost_ret (v := .tuple #[.slice none 0 0, .int .i64 2]) (by simp [results, Tryd.results5, go_sem]) rfl ?_
        rw [HV.out]
        exact OutY.none HB1.out
      · have hi : ¬ (50 : Int) < (nn : Int) := by omega
        have HZ2 : Hid ((if notesF [] l ≠ 0 then (([] : By), notesF [] l) else packS (cksB r xss 16 l)) = Z) := by
          show _ = _
          rw [← HZ.out]
          unfold bytesS
          rw [if_neg (show ¬ chkS r xss ≠ 0 by simp [hc.out]), if_neg (show ¬ ((16 : Int) ≠ 16 ∧ (16 : Int) ≠ 24) by simp), if_neg HEV.out, if_neg (show ¬ 50 < l.length by rw [HNL.out]; exact hlen)]
        clear HZ
        have hmm := @run_makeMap Tryd.prog
        go_wp2_with fail
        refine (FORM_any r 16 (by omega) (by omega) ad k c xss hok _ B hBs hh1).mono ?_
        rw [HM.out]
        rintro e w2 ⟨vF, rfl, hoF, hb2⟩
        obtain ⟨AF, cF, rfl, _, _⟩ := hoF.form
        have hFl : List.length (formB r k 16 m) = 12 := by simp [formB, leZ_length]
        rw [hFl] at hoF ⊢
        have HOF := Lib.hid hoF
        have HB2 := Lib.hid (HB1.out.trans (hb2.mono HB1.out.size))
        have HL2 := Lib.hid hb2
        have B2 := Lib.hid (B1.out.below hb2)
        clear hoF hb2 hFl y0 y1
        go_upto_region 20 with fail
        obtain ⟨Y, gc, hY, hgc, HHY, HBY, HSY⟩ := two_boxes w2 (.cells #[.string ⟨#[102, 111, 114, 109]⟩, .slice AF 12 cF] 42) (.map #[] 0)
        rw [show w2.heap.size + 1 = gc + 1 by rw [hgc], ← hgc, ← hY]
        have hgcw : w1.heap.size ≤ gc := by rw [hgc]; exact HL2.out.size
        have hgcY := blk_lt HHY.out.1
        have HC0 := Lib.hid (cks_one (nm := [102, 111, 114, 109]) HHY.out.1 hgcw (HOF.out.below HBY.out).inB)
        have HM0 : Hid (Y.ownsMap Tryd.prog 9 (plainElem (H := Unit) Tryd.prog 4) (gc + 1) 0 (.map [])) := ⟨#[], 0, HHY.out.2, ⟨by simp, stamped_empty 0, by simp⟩, Nat.le_refl _, rfl⟩
        have HLY := Lib.hid (HL2.out.trans (HBY.out.mono HL2.out.size))
        have law : Keyed Tryd.prog 9 := string_keyed Tryd.underlying9
        obtain ⟨ck0, hck⟩ : ∃ ck0 : Ck, (([102, 111, 114, 109] : By), formB r k 16 m) = ck0 := ⟨_, rfl⟩
        have HCK := Lib.hid hck
        rw [hck] at HC0
        have hs1 := HB1.out.size
        clear hck hY hgc HHY HBY HSY HOF HL2 B2 HB2 hmm hh1
        go_wp2_with fail
        go_loopw [13, 65] (fun s i wr => ∃ (a : Nat) (A1 : Option Addr) (n1 c1 : Nat) (rows : List Value) (nm : Nat) (D : DataW Unit), a ≤ nn ∧ i = .int .i64 a ∧ s = .slice A1 n1 c1 ∧ n1 ≤ a + 1 ∧ nm ≤ a ∧ Hid (CksR wr w1.heap.size (.slice A1 n1 c1) (ck0 :: (l.take a).map noteC) rows) ∧ Hid (wr.ownsMap Tryd.prog 9 (plainElem (H := Unit) Tryd.prog 4) (gc + 1) nm D) ∧ Hid (∀ x, D.atKey (.string x) (.lit (.bool false)) = .lit (.bool (isIn (l.take a) x))) ∧ Hid (notesF [] l = notesF (l.take a) (l.drop a)) ∧ Hid (Below w1.heap.size w1 wr)) (fun _ i _ => nn - (intOf i).toNat)
        case atStart => exact ⟨0, _, 1, 1, _, 0, _, Nat.zero_le _, rfl, rfl, by omega, by omega, HC0, HM0, (fun x => rfl), rfl, HLY⟩
        case round =>
          clear HC0 HM0 HLY
          obtain ⟨a, A1, n1, c1, rows, nm, D, ha, rfl, rfl, hn1, hnm, hC, hMp, hA, hF, hb⟩ := hrel
          have hsz := hb.out.size
          have HBw := Lib.hid (HB1.out.trans (hb.out.mono hs1))
          by_cases hal : a < nn
          · have hai : (a : Int) < (nn : Int) := by omega
            have ha0 : (0 : Int) ≤ (a : Int) := by omega
            have haL : Hid (a < l.length) := by show _ < _; rw [HNL.out]; exact hal
            obtain ⟨b, o, rfl, hbB, q0, q1⟩ := (HN.out.below (HBw.out.mono hB) (Nat.le_refl _)).2 a hal
            obtain ⟨⟨s, t⟩, hst⟩ : ∃ p, nxOf l a = p := ⟨_, rfl⟩
            have hzz := hz.out _ (nx_mem haL.out)
            have HD := Lib.hid (drop_nx haL.out)
            have HTK := Lib.hid (take_nx haL.out)
            rw [hst] at q0 q1 hzz HD HTK
            dsimp only at q0 q1 hzz
            obtain ⟨hz1, hz2⟩ := hzz
            unfold maxLen at hz1 hz2
            obtain ⟨X, gn, hX, hgn, HX, HBX, HSX⟩ := one_box wr (.cells #[.string s, .string t] 36)
            obtain ⟨f, hf⟩ : ∃ f, noteS s.data.toList t.data.toList = f := ⟨_, rfl⟩
            have HFF := Lib.hid hf
            have HCX := Lib.hid (hC.out.below HBX.out)
            have HMX := Lib.hid (map_keep hMp.out (HBX.out.block (gc + 1) hMp.out.lt))
            have HLX := Lib.hid (hb.out.trans (HBX.out.mono hsz))
            have hsX := HLX.out.size
            have hgm := hMp.out.lt
            have hgne : gc + 1 ≠ gn := by omega
            obtain ⟨z0, z1, _, _⟩ := cells2 HX.out
            clear hst hf
            go_upto_region 23 with fail
            rw [← hX, ← hgn]
            clear hX hgn q0 q1 hC hMp hb HBX HSX
            go_wp2_with fail
            refine (CHECKNOTE_any s t (by omega) (by omega) _).mono ?_
            rw [HFF.out]
            rintro e w3 ⟨rfl, hb3⟩
            have HC3 := Lib.hid (HCX.out.below hb3)
            have HM3 := Lib.hid (map_keep HMX.out (hb3.block (gc + 1) HMX.out.lt))
            have HX3 := Lib.hid ((hb3.block gn (blk_lt HX.out)).trans HX.out)
            have HL3 := Lib.hid (HLX.out.trans (hb3.mono hsX))
            have HB3 := Lib.hid (HB1.out.trans (HL3.out.mono hs1))
            clear hb3 HCX HMX HLX HX z0 z1
            by_cases hf0 : f = 0
            · subst hf0
              have hgn3 := blk_lt HX3.out
              obtain ⟨_, _, hs40, ht200⟩ := noteS_zero HFF.out
              rw [len_dat] at hs40 ht200
              obtain ⟨z0, z1, _, _⟩ := cells2 HX3.out
              have hkey : Hid (keyOf Tryd.prog 9 (.string s) = some (.string s.data.toList)) := Go.WideMaps.keyOf_string_mk Tryd.underlying9 (by unfold maxLen; omega)
              obtain ⟨cc, hcc⟩ : ∃ cc, isIn (l.take a) s.data.toList = cc := ⟨_, rfl⟩
              have HA3 := hA.out s.data.toList
              rw [hcc] at HA3
              have HCC := Lib.hid hcc
              have HA4 := Lib.hid HA3
              clear hcc HA3
              cases cc with
              | true =>
                have HV : Hid (Z = ([], 7)) := by
                  show _ = _
                  have e7 : notesF [] l = 7 := by
                    rw [hF.out, HD.out]
                    unfold notesF
                    rw [if_neg (show ¬ noteX (s, t) ≠ 0 by unfold noteX; rw [HFF.out]; simp), if_pos HCC.out]
                  rw [← HZ2.out, if_pos (by rw [e7]; decide), e7]
                go_wp2_with (first | (at_lookup; refine wpList_look_bool _ rfl _ _ 45 rfl 9 4 law Tryd.underlying45 Tryd.underlying4 (zeroBo _) (gc + 1) nm D rfl HM3.out _ _ rfl hkey.out ?_; intro c9 hat; rw [HA4.out] at hat; injection hat with hat; injection hat with hat; subst hat))
                refine bodyPost_ret (v := .tuple #[.slice none 0 0, .int .i64 7]) (by simp [results, Tryd.results5, go_sem]) rfl ?_
                rw [HV.out]
                exact OutY.none HB3.out
              | false =>
                go_upto_region 28 with (first | (at_lookup; refine wpList_look_bool _ rfl _ _ 45 rfl 9 4 law Tryd.underlying45 Tryd.underlying4 (zeroBo _) (gc + 1) nm D rfl HM3.out _ _ rfl hkey.out ?_; intro c9 hat; rw [HA4.out] at hat; injection hat with hat; injection hat with hat; subst hat))
                go_upto_region 29 with (first | (at_mapUpdate; refine wpList_mapUpdate_own _ rfl _ _ _ 45 rfl 9 4 law Tryd.underlying45 (plainElem (H := Unit) Tryd.prog 4) (gc + 1) nm D rfl HM3.out (by unfold maxLen; omega) _ _ _ rfl rfl hkey.out (.lit (.bool true)) [] (plainElem_bool Tryd.underlying4 true) ?_; intro w6 hown6 hgr6))
                have HM6 := Lib.hid hown6
                have HC6 := Lib.hid (HC3.out.kept_map HM3.out hgr6)
                have HX6 := Lib.hid ((hgr6.block gn hgn3 (by intro e; injection e with e; exact hgne e.symm)).trans HX3.out)
                have HL6 := Lib.hid (HL3.out.trans (grown_below hgr6 HL3.out.size (fun j e => by injection e with e; omega)))
                obtain ⟨y0, y1, _, _⟩ := cells2 HX6.out
                clear hown6 hgr6 z0 z1
                obtain ⟨st, hst⟩ : ∃ st : ByteArray, s ++ ⟨#[0]⟩ ++ t = st := ⟨_, rfl⟩
                have hst2 : st.data.toList = (s.data.toList ++ [0]) ++ t.data.toList := by rw [← hst]; simp
                have hst3 : st.size ≤ 241 := by
                  rw [← len_dat, hst2]
                  simp only [List.length_append, List.length_singleton, len_dat]
                  omega
                obtain ⟨V, C, hrun, HCC9, HIV, HBV⟩ := bytes_new st w6 (by unfold maxLen; omega)
                have HCV := Lib.hid (HC6.out.below HBV.out)
                have HLV := Lib.hid (HL6.out.trans (HBV.out.mono HL6.out.size))
                have hlen1 : n1 = ((l.take a).map noteC).length + 1 := by
                  obtain ⟨A', c', e, _, _⟩ := own_form HC6.out.outer
                  injection e
                have hs6 := HLV.out.size
                have HOV : Hid (V.ownsRow w1.heap.size 42 2 (.slice A1 n1 c1) n1 (cksC (ck0 :: (l.take a).map noteC) rows)) := by
                  have := HCV.out.outer
                  rw [List.length_cons, ← hlen1] at this
                  exact this
                have HLN := Lib.hid hlen1
                have HMV := Lib.hid (map_keep HM6.out (HBV.out.block (gc + 1) HM6.out.lt))
                have hrun2 : (convert 9 26 (.string (s ++ ⟨#[0]⟩ ++ t))).run Tryd.prog w6 = .ok (.slice (some ⟨w6.heap.size, 0, none⟩) st.size C) V := by rw [hst]; exact hrun
                have HST2 := Lib.hid hst2
                clear hlen1 hst hrun hst2
                go_wp2_with (with_reducible refine wpList_push_ck rfl (.tmp 81) (.tmp 90) rfl w1.heap.size A1 n1 c1 (cksC (ck0 :: (l.take a).map noteC) rows) (.string ⟨#[110, 111, 116, 101]⟩) (.slice (some ⟨w6.heap.size, 0, none⟩) st.size C) rfl rfl V.heap.size rfl rfl rfl HOV.out (by omega) hs6 ?_; intro g8 cap8 w8 ho8 hg8)
                have HC8 : Hid (CksR w8 w1.heap.size (.slice (some ⟨g8, 0, none⟩) (n1 + 1) cap8) (ck0 :: (l.take (a + 1)).map noteC) (rows ++ [.slice (some ⟨w6.heap.size, 0, none⟩) st.size C])) := by
                  have hbv : Below V.heap.size V (V.alloc (.cells #[.string ⟨#[110, 111, 116, 101]⟩, .slice (some ⟨w6.heap.size, 0, none⟩) st.size C] 42)) := (Below.refl _ V).alloc (Nat.le_refl _) _
                  have hin : InB (V.alloc (.cells #[.string ⟨#[110, 111, 116, 101]⟩, .slice (some ⟨w6.heap.size, 0, none⟩) st.size C] 42)) (.slice (some ⟨w6.heap.size, 0, none⟩) st.size C) (noteC (s, t)).2 := by
                    show InB _ _ ((s.data.toList ++ [0]) ++ t.data.toList)
                    rw [← HST2.out]
                    exact HIV.out.below hbv
                  have := CksR.push (c := noteC (s, t)) HCV.out hbv hin (by rw [List.length_cons, ← HLN.out]; exact ho8) hg8
                  show CksR _ _ _ _ _
                  rw [HTK.out, List.map_append]
                  exact this
                have HM8 : Hid (w8.ownsMap Tryd.prog 9 (plainElem (H := Unit) Tryd.prog 4) (gc + 1) (nm + 1) (D.put (.string s.data.toList) (.lit (.bool true)))) := by
                  have hlt := HMV.out.lt
                  have hne : (Value.slice A1 n1 c1).ownBlock ≠ some (gc + 1) := by
                    obtain ⟨es, ck, hb9, _⟩ := HMV.out
                    exact own_ne_map HOV.out hb9
                  refine map_keep HMV.out ((hg8.block (gc + 1) (by simp; omega) (fun e => hne e.symm)).trans ?_)
                  exact Below.heap_alloc _ _ _ hlt
                have HA8 : Hid (∀ x, (D.put (.string s.data.toList) (.lit (.bool true))).atKey (.string x) (.lit (.bool false)) = .lit (.bool (isIn (l.take (a + 1)) x))) := fun x => by
                  rw [HTK.out, isIn_snoc]
                  by_cases hx : s.data.toList = x
                  · rw [← hx, atKey_put_same (k := .string s.data.toList) HM3.out.isMap (show WideAt.IsKeyLit (.string s.data.toList) from trivial)]
                    simp
                  · rw [atKey_put_other (fun e => hx (by injection e with e; exact e.symm)), hA.out x]
                    simp [hx]
                have HF8 : Hid (notesF [] l = notesF (l.take (a + 1)) (l.drop (a + 1))) := by
                  show _ = _
                  rw [hF.out, HD.out, HTK.out]
                  conv => lhs; unfold notesF
                  rw [if_neg (show ¬ noteX (s, t) ≠ 0 by unfold noteX; rw [HFF.out]; simp), if_neg (by rw [HCC.out]; decide)]
                have HL8 := Lib.hid (HLV.out.trans (((Below.refl w1.heap.size V).alloc hs6 _).grown hg8 (by simp; omega) (fun b e => (own_lt HOV.out e).1)))
                clear ho8 hg8
                go_roundw
                case rel => exact ⟨a + 1, _, n1 + 1, cap8, _, nm + 1, _, by omega, by go_num, rfl, by omega, by omega, HC8, HM8, HA8, HF8, HL8⟩
                case measure => simp [intOf]; omega
            · have hq3 : (f != 0) = true := by simpa using hf0
              have HV : Hid (Z = ([], f)) := by
                show _ = _
                have e7 : notesF [] l = f := by
                  rw [hF.out, HD.out]
                  unfold notesF
                  rw [if_pos (show noteX (s, t) ≠ 0 by unfold noteX; rw [HFF.out]; exact hf0)]
                  exact HFF.out
                rw [← HZ2.out, if_pos (by rw [e7]; exact hf0), e7]
              go_wp2_with fail
              refine bodyPost_ret (v := .tuple #[.slice none 0 0, .int .i64 f]) (by simp [results, Tryd.results5, go_sem]) rfl ?_
              rw [HV.out]
              exact OutY.none HB3.out
          · obtain rfl : a = nn := by omega
            have hai : ¬ (a : Int) < (a : Int) := by omega
            rw [List.take_of_length_le (by rw [HNL.out]; exact Nat.le_refl _)] at hC hF
            have HGD : Hid (packS (cksB r xss 16 l) = Z) := by
              show _ = _
              have e0 : notesF [] l = 0 := by
                rw [hF.out, List.drop_of_length_le (by rw [HNL.out]; exact Nat.le_refl _)]
                rfl
              rw [← HZ2.out, if_neg (by rw [e0]; decide)]
            have hall := Lib.hid (notesF_zero (l := l) (pre := []) (by
              rw [hF.out, List.drop_of_length_le (by rw [HNL.out]; exact Nat.le_refl _)]
              rfl))
            clear hF hA hMp HZ2
            obtain ⟨wp, rfl⟩ : ∃ x : World, x = wr := ⟨_, rfl⟩
            obtain ⟨x0, x1⟩ : wp.cell? ⟨gx, 0, none⟩ = some (.int .i64 r) ∧ wp.cell? ⟨gx, 1, none⟩ = some (.slice (some ad) k c) := by
              obtain ⟨p0, p1, _, _⟩ := sbox_cells B1.out
              have h9 := blk_lt B1.out.box
              exact ⟨(hb.out.cell (p := ⟨gx, 0, none⟩) h9).trans p0, (hb.out.cell (p := ⟨gx, 1, none⟩) h9).trans p1⟩
            go_wp2_with fail
            refine (LENGTH_any r (some ad) k c xss _ B (by omega) (hh.out.below (HBw.out.mono hB) (Nat.le_refl _)) hn0).mono ?_
            rw [HM.out]
            rintro e w5 ⟨rfl, hb5⟩
            have HC5 := Lib.hid (hC.out.below hb5)
            have HL5 := Lib.hid (hb.out.trans (hb5.mono hsz))
            have HB5 := Lib.hid (HB1.out.trans (HL5.out.mono hs1))
            have hh5 := Lib.hid (hh.out.below (HB5.out.mono hB) (Nat.le_refl _))
            have HX5 := Lib.hid ((HL5.out.block gx (blk_lt B1.out.box)).trans B1.out.box)
            have hgx5 := blk_lt HX5.out
            have hs5 := HL5.out.size
            have hB5 : B ≤ w5.heap.size := by omega
            clear hb5 hb hC x0 x1
            go_wp2_with fail
            go_loopw [18, 95] (fun s i wr => ∃ (i9 : Nat) (A5 : Option Addr) (n5 c5 : Nat), i9 ≤ m ∧ i = .int .i64 i9 ∧ s = .slice A5 n5 c5 ∧ n5 ≤ 48 * i9 ∧ Hid (OwnBys wr w5.heap.size (.slice A5 n5 c5) (dataB 16 xss i9)) ∧ Hid (Below w5.heap.size w5 wr)) (fun _ i _ => m - (intOf i).toNat)
            case atStart => exact ⟨0, none, 0, 0, Nat.zero_le _, rfl, rfl, by omega, World.ownsRow_nil _ _ _ _, Below.refl _ _⟩
            case round =>
              obtain ⟨wq, rfl⟩ : ∃ x : World, x = wr := ⟨_, rfl⟩
              obtain ⟨i9, A5, n5, c5, hi9, rfl, rfl, hn5, hO, hb⟩ := hrel
              obtain ⟨x0, x1, _, _⟩ := cells2 ((hb.out.block gx hgx5).trans HX5.out)
              by_cases hil : i9 < m
              · have hii : (i9 : Int) < (m : Int) := by omega
                have hi0 : (0 : Int) ≤ (i9 : Int) := by omega
                go_wp2_with fail
                go_loopw [18, 101] (fun s t wr => ∃ (a9 : Nat) (A6 : Option Addr) (n6 c6 : Nat), a9 ≤ k ∧ t = .int .i64 a9 ∧ s = .slice A6 n6 c6 ∧ n6 ≤ 48 * i9 + 3 * a9 ∧ Hid (OwnBys wr w5.heap.size (.slice A6 n6 c6) (dataB 16 xss i9 ++ (xss.take a9).flatMap (fun l => smpC 16 (elOf l i9)))) ∧ Hid (Below w5.heap.size w5 wr)) (fun _ t _ => k - (intOf t).toNat)
                case atStart => exact ⟨0, A5, n5, c5, Nat.zero_le _, rfl, rfl, by omega, by rw [List.take_zero, List.flatMap_nil, List.append_nil]; exact hO, hb⟩
                case round =>
                  clear hO hb x0 x1
                  obtain ⟨wt, rfl⟩ : ∃ x : World, x = wr := ⟨_, rfl⟩
                  obtain ⟨a9, A6, n6, c6, ha9, rfl, rfl, hn6, hO, hb⟩ := hrel
                  have ha90 : (0 : Int) ≤ (a9 : Int) := by omega
                  by_cases hal9 : a9 < k
                  · have hai9 : (a9 : Int) < (k : Int) := by omega
                    have hax : Hid (a9 < xss.length) := by show _ < _; rw [hl.out]; exact hal9
                    have him : Hid (i9 < len0 xss) := by show _ < _; rw [HM.out]; exact hil
                    obtain ⟨A', n', c', hadB, hcell, hn', hc', hi'⟩ := (hh5.out.below hb.out hB5).row hal9
                    obtain rfl : m = n' := ((hok.out.row hax.out).1.trans HM.out).symm.trans hi'.1
                    obtain ⟨ad', rfl⟩ := hi'.addr (by omega)
                    have hcell2 := (hi'.at_ hil).2
                    obtain ⟨y1, y2⟩ := hok.out.el hax.out him.out
                    have HST := Lib.hid (colB_step (b := 16) (i := i9) hax.out)
                    obtain ⟨y, hy⟩ : ∃ y, elOf (rowOf xss a9) i9 = y := ⟨_, rfl⟩
                    rw [hy] at hcell2 y1 y2 HST
                    have hst9 := hb.out.size
                    unfold maxLen at hc'
                    clear hy hi'
                    have HSM : Hid (smpC 16 y = leZ (y / 256) 2) := by show _ = _; simp [smpC]
                    go_wp2_with fail
                    refine (PUT_any w5.heap.size A6 n6 c6 _ (y / 256) 2 (by omega) (by omega) (by omega) (by omega) _ hst9 hO).mono ?_
                    rintro e w7 ⟨A7, n7, c7, rfl, ho7, hg7⟩
                    rw [← HSM.out, List.append_assoc, ← HST.out] at ho7
                    have hn7 : n7 ≤ 48 * i9 + 3 * (a9 + 1) := by
                      have e1 := own_len_by ho7
                      have e2 := own_len_by hO.out
                      rw [HST.out, ← List.append_assoc, List.length_append, ← e2, smpC_len] at e1
                      have e3 : ((16 : Int) / 8).toNat ≤ 3 := by decide
                      omega
                    have HO7 := Lib.hid ho7
                    have HB7 := Lib.hid (hb.out.trans (hg7.below hst9 (fun j hj => (own_lt_by hO.out j hj).1)))
                    clear ho7 hg7
                    go_wp2_with fail
                    go_roundw
                    case rel => exact ⟨a9 + 1, A7, n7, c7, by omega, by go_num, rfl, hn7, HO7, HB7⟩
                    case measure => simp [intOf]; omega
                  · obtain rfl : a9 = k := by omega
                    have hai9 : ¬ (a9 : Int) < (a9 : Int) := by omega
                    have HO7 := Lib.hid (by have := hO.out; rw [colB_all hl.out, ← dataB_step] at this; exact this)
                    go_wp2_with fail
                    go_roundw
                    case rel => exact ⟨i9 + 1, A6, n6, c6, by omega, by go_num, rfl, by omega, HO7, hb⟩
                    case measure => simp [intOf]; omega
              · obtain rfl : i9 = m := by omega
                have hii : ¬ (i9 : Int) < (i9 : Int) := by omega
                have hlen1 : n1 = (l.map noteC).length + 1 := by
                  obtain ⟨A', c', e, _, _⟩ := own_form HC5.out.outer
                  injection e
                have HCq := Lib.hid (HC5.out.below hb.out)
                have HOV : Hid (wq.ownsRow w1.heap.size 42 2 (.slice A1 n1 c1) n1 (cksC (ck0 :: l.map noteC) rows)) := by
                  have := HCq.out.outer
                  rw [List.length_cons, ← hlen1] at this
                  exact this
                have HLN := Lib.hid hlen1
                have hsq : w1.heap.size ≤ wq.heap.size := Nat.le_trans hs5 hb.out.size
                obtain ⟨A5', c5', eq5, hq1, hq2⟩ := hO.out.form
                have HDI := Lib.hid hO.out.inB
                have hdl : List.length (dataB 16 xss i9) ≤ 48 * i9 := by have := own_len_by hO.out; omega
                clear hlen1 eq5 hq1 hq2
                go_wp2_with (with_reducible refine wpList_push_ck rfl (.tmp 118) (.tmp 121) rfl w1.heap.size A1 n1 c1 (cksC (ck0 :: l.map noteC) rows) (.string ⟨#[100, 97, 116, 97]⟩) (.slice A5 n5 c5) rfl rfl wq.heap.size rfl rfl rfl HOV.out (by omega) hsq ?_; intro g8 cap8 w8 ho8 hg8)
                have HE : Hid (cksB r xss 16 l = (ck0 :: l.map noteC) ++ [([100, 97, 116, 97], dataB 16 xss i9)]) := by
                  show _ = _
                  unfold cksB
                  rw [hl.out, HM.out, HCK.out]
                have hbv : Below wq.heap.size wq (wq.alloc (.cells #[.string ⟨#[100, 97, 116, 97]⟩, .slice A5 n5 c5] 42)) := (Below.refl _ wq).alloc (Nat.le_refl _) _
                have hC8 := CksR.push (c := (([100, 97, 116, 97] : By), dataB 16 xss i9)) HCq.out hbv (HDI.out.below hbv) (by rw [List.length_cons, ← HLN.out]; exact ho8) hg8
                rw [← HE.out] at hC8
                have HA8 := Lib.hid hC8.at_
                obtain ⟨A9, c9, e9, hf1, hf2⟩ := own_form ho8
                injection e9 with _ _ e9
                subst e9
                have hwq : w.heap.size ≤ wq.heap.size := Nat.le_trans hs1 hsq
                have HB8 := Lib.hid (((HB5.out.trans (hb.out.mono HB5.out.size)).alloc hwq (.cells #[.string ⟨#[100, 97, 116, 97]⟩, .slice A5 n5 c5] 42)).grown hg8 (by simp; omega) (fun j e => Nat.le_trans hs1 (own_lt HOV.out e).1))
                have hd9 : Hid (∀ c ∈ cksB r xss 16 l, c.2.length ≤ 140737488351232) := fun c9 hc9 => by
                  rw [HE.out] at hc9
                  simp only [List.mem_append, List.mem_cons, List.mem_map, List.not_mem_nil, or_false] at hc9
                  rcases hc9 with (rfl | ⟨x, hx, rfl⟩) | rfl
                  · rw [← HCK.out]; simp [formB, leZ_length]
                  · have := noteC_len (hall.out x hx); omega
                  · dsimp only; omega
                clear ho8 hg8 hC8 hbv HOV HCq HDI hb hO
                refine (PACK_any (some ⟨g8, 0, none⟩) (n1 + 1) cap8 (cksB r xss 16 l) hd9 ⟨hf1, hf2⟩ _ w8.heap.size (Nat.le_refl _) HA8.out).mono ?_
                rw [HGD.out]
                rintro e w9 ⟨v, rfl, hO9, hb9⟩
                have hw8 := HB8.out.size
                have HO9 := Lib.hid (own_base hO9 hw8)
                have HB9 := Lib.hid (HB8.out.trans (hb9.mono hw8))
                clear hO9 hb9 HA8 HB8
                go_wp2_with fail
                refine bodyPost_ret (v := .tuple #[v, .int .i64 Z.2]) (by simp [results, Tryd.results5, go_sem]) rfl ?_
                exact ⟨_, rfl, HO9.out, HB9.out⟩
set_option maxRecDepth 100000 in
set_option maxHeartbeats 4000000 in
theorem BYTES_24 (r : Int) (ad : Addr) (AN : Option Addr) (n c nn cN : Nat) (xss : List (List Int)) (l : List Nx) (hc : Hid (chkS r xss = 0)) (hz : Hid (∀ x ∈ l, x.1.size ≤ maxLen ∧ x.2.size ≤ maxLen)) (w : World) (B : Nat) (hB : B ≤ w.heap.size) (hh : Hid (RowsAt w B (some ad) n xss)) (HN : Hid (NtsAt w B AN nn l)) :
    Calls Tryd.prog 5 #[.agg #[.int .i64 r, .slice (some ad) n c], .int .i64 24, .slice AN nn cN] w (OutY w (bytesS r xss 24 l)) := by
  have hq : (chkS r xss != 0) = false := by rw [hc.out]; rfl
  have hok := Lib.hid (chkS_ok hc.out)
  have hl := Lib.hid hh.out.1
  have hn16 : n ≤ 16 := by have := hok.out.few; have := hl.out; omega
  have hn0 : 0 < n := by have := hok.out.some; have := hl.out; omega
  have hm := hok.out.long
  obtain ⟨m, hm9⟩ : ∃ m, len0 xss = m := ⟨_, rfl⟩
  have HM := Lib.hid hm9
  rw [hm9] at hm
  clear hm9
  obtain ⟨Z, hZ⟩ : ∃ Z, bytesS r xss 24 l = Z := ⟨_, rfl⟩
  have HZ := Lib.hid hZ
  rw [hZ]
  clear hZ
  obtain ⟨W, gx, hW, hgx, B0, HB⟩ := sbox_new w r (some ad) n c xss (hh.out.mono hB)
  have hsW : B ≤ W.heap.size := Nat.le_trans hB HB.out.size
  obtain ⟨x0, x1, _, _⟩ := sbox_cells B0.out
  have hbB : Hid (Below B w W) := HB.out.mono hB
  go_enter Tryd.func5, Tryd.ntmps5
  go_upto_region 1 with (fail)
  rw [← hW, ← hgx]
  clear hW hgx
  go_wp2_with fail
  refine (CHECK_any r (some ad) n c xss _ B hsW (hh.out.below hbB.out (Nat.le_refl _))).mono ?_
  rintro e w1 ⟨rfl, hb1⟩
  have HB1 := Lib.hid (HB.out.trans (hb1.mono HB.out.size))
  have B1 := Lib.hid (B0.out.below hb1)
  clear hb1 x0 x1 B0
  obtain ⟨y0, y1, _, _⟩ := sbox_cells B1.out
  have hh1 := Lib.hid (hh.out.below (HB1.out.mono hB) (Nat.le_refl _))
  have hBs : B ≤ w1.heap.size := Nat.le_trans hB HB1.out.size
  go_wp2_with fail
  go_loop [36] (fun i => ∃ k : Nat, k ≤ n ∧ i = .int .i64 k ∧ Hid (∀ a j, a < k → j < m → evAt 24 (elOf (rowOf xss a) j))) (fun i => n - (intOf i).toNat)
  case atStart => exact ⟨0, Nat.zero_le _, rfl, fun a j ha => by omega⟩
  case round =>
    obtain ⟨k, hk, rfl, hE⟩ := hrel
    by_cases hlt : k < n
    · have hkx : Hid (k < xss.length) := by show _ < _; rw [hl.out]; exact hlt
      obtain ⟨A', n', c', hadB, hcell, hn', hc', hi'⟩ := hh1.out.row hlt
      obtain rfl : m = n' := ((hok.out.row hkx.out).1.trans HM.out).symm.trans hi'.1
      have HI := Lib.hid hi'
      clear hi'
      unfold maxLen at hc'
      have hki : (k : Int) < (n : Int) := by omega
      have hk0 : (0 : Int) ≤ (k : Int) := by omega
      go_wp2_with fail
      go_loop [42] (fun i => ∃ j : Nat, j ≤ m ∧ i = .int .i64 j ∧ Hid (∀ i, i < j → evAt 24 (elOf (rowOf xss k) i))) (fun i => m - (intOf i).toNat)
      case atStart => exact ⟨0, Nat.zero_le _, rfl, fun i hi => by omega⟩
      case round =>
        obtain ⟨j, hj, rfl, hE2⟩ := hrel
        by_cases hjl : j < m
        · obtain ⟨ad', rfl⟩ := HI.out.addr (by omega)
          have hcell2 := (HI.out.at_ hjl).2
          have hkm : Hid (j < len0 xss) := by show _ < _; rw [HM.out]; exact hjl
          obtain ⟨y1, y2⟩ := hok.out.el hkx.out hkm.out
          obtain ⟨y, hy⟩ : ∃ y, elOf (rowOf xss k) j = y := ⟨_, rfl⟩
          have HY := Lib.hid hy
          rw [hy] at hcell2 y1 y2
          have hji : (j : Int) < (m : Int) := by omega
          have hj0 : (0 : Int) ≤ (j : Int) := by omega
          clear hy
          by_cases hbad : (24 : Int) = 16 ∧ y % 256 ≠ 0
          · first
              | exact absurd hbad.1 (by decide)
              | (have hq2 : (y.tmod 256 != 0) = true := by rw [tmod_zero]; exact decide_eq_true hbad.2
                 have hev := even_bad hkx.out (by rw [(hok.out.row hkx.out).1]; exact hkm.out) (by rw [HY.out]; exact hbad.2)
                 have HV : Hid (Z = ([], 3)) := by
                   show _ = _
                   rw [← HZ.out]
                   unfold bytesS
                   rw [if_neg (by simp [hc.out]), if_neg (by simp), if_pos ⟨rfl, hev⟩]
                 clear hbad hev
                 go_wp2_with fail
                 refine bodyPost_ret (v := .tuple #[.slice none 0 0, .int .i64 3]) (by simp [results, Tryd.results5, go_sem]) rfl ?_
                 rw [HV.out]
                 exact OutY.none HB1.out)
          · have hev : evAt 24 y := fun e => Classical.byContradiction fun h => hbad ⟨e, h⟩
            have hE3 : Hid (∀ i, i < j + 1 → evAt 24 (elOf (rowOf xss k) i)) := fun i hi => by
              by_cases hij : i = j
              · rw [hij, HY.out]; exact hev
              · exact hE2.out i (by omega)
            have hq1 : (24 : Int) = 16 → (y.tmod 256 != 0) = false := fun e => by rw [tmod_zero]; exact decide_eq_false (fun h => h (hev e))
            clear hbad hev
            first
              | (have hq2 := hq1 rfl
                 clear hq1
                 go_wp2_with fail)
              | (clear hq1
                 go_wp2_with fail)
            go_round
            case rel => exact ⟨j + 1, by omega, by go_num, hE3⟩
            case measure => simp [intOf]; omega
        · obtain rfl : j = m := by omega
          have hji : ¬ (j : Int) < (j : Int) := by omega
          go_wp2_with fail
          go_round
          case rel => exact ⟨k + 1, by omega, by go_num, (fun a i ha hi => by
            by_cases hak : a = k
            · rw [hak]; exact hE2.out i hi
            · exact hE.out a i (by omega) hi)⟩
          case measure => simp [intOf]; omega
    · obtain rfl : k = n := by omega
      have hki : ¬ (k : Int) < (k : Int) := by omega
      have HEV : Hid (¬ ((24 : Int) = 16 ∧ evenB xss = false)) := fun h => by
        have := even_all hl.out (fun a ha => (hok.out.row (show a < xss.length by rw [hl.out]; exact ha)).1.trans HM.out) (fun a j ha hj => hE.out a j ha hj h.1)
        rw [this] at h
        exact absurd h.2 (by decide)
      clear hE
      have HNL : Hid (l.length = nn) := HN.out.1
      go_upto_region 16 with fail
      by_cases hlen : 50 < nn
      · have hi : (50 : Int) < (nn : Int) := by omega
        have HV : Hid (Z = ([], 2)) := by
          show _ = _
          rw [← HZ.out]
          unfold bytesS
          rw [if_neg (by simp [hc.out]), if_neg (by simp), if_neg HEV.out, if_pos (by rw [HNL.out]; exact hlen)]
        go_wp2_with fail
        refine bodyPost_ret (v := .tuple #[.slice none 0 0, .int .i64 2]) (by simp [results, Tryd.results5, go_sem]) rfl ?_
        rw [HV.out]
        exact OutY.none HB1.out
      · have hi : ¬ (50 : Int) < (nn : Int) := by omega
        have HZ2 : Hid ((if notesF [] l ≠ 0 then (([] : By), notesF [] l) else packS (cksB r xss 24 l)) = Z) := by
          show _ = _
          rw [← HZ.out]
          unfold bytesS
          rw [if_neg (show ¬ chkS r xss ≠ 0 by simp [hc.out]), if_neg (show ¬ ((24 : Int) ≠ 16 ∧ (24 : Int) ≠ 24) by simp), if_neg HEV.out, if_neg (show ¬ 50 < l.length by rw [HNL.out]; exact hlen)]
        clear HZ
        have hmm := @run_makeMap Tryd.prog
        go_wp2_with fail
        refine (FORM_any r 24 (by omega) (by omega) ad k c xss hok _ B hBs hh1).mono ?_
        rw [HM.out]
        rintro e w2 ⟨vF, rfl, hoF, hb2⟩
        obtain ⟨AF, cF, rfl, _, _⟩ := hoF.form
        have hFl : List.length (formB r k 24 m) = 12 := by simp [formB, leZ_length]
        rw [hFl] at hoF ⊢
        have HOF := Lib.hid hoF
        have HB2 := Lib.hid (HB1.out.trans (hb2.mono HB1.out.size))
        have HL2 := Lib.hid hb2
        have B2 := Lib.hid (B1.out.below hb2)
        clear hoF hb2 hFl y0 y1
        go_upto_region 20 with fail
        obtain ⟨Y, gc, hY, hgc, HHY, HBY, HSY⟩ := two_boxes w2 (.cells #[.string ⟨#[102, 111, 114, 109]⟩, .slice AF 12 cF] 42) (.map #[] 0)
        rw [show w2.heap.size + 1 = gc + 1 by rw [hgc], ← hgc, ← hY]
        have hgcw : w1.heap.size ≤ gc := by rw [hgc]; exact HL2.out.size
        have hgcY := blk_lt HHY.out.1
        have HC0 := Lib.hid (cks_one (nm := [102, 111, 114, 109]) HHY.out.1 hgcw (HOF.out.below HBY.out).inB)
        have HM0 : Hid (Y.ownsMap Tryd.prog 9 (plainElem (H := Unit) Tryd.prog 4) (gc + 1) 0 (.map [])) := ⟨#[], 0, HHY.out.2, ⟨by simp, stamped_empty 0, by simp⟩, Nat.le_refl _, rfl⟩
        have HLY := Lib.hid (HL2.out.trans (HBY.out.mono HL2.out.size))
        have law : Keyed Tryd.prog 9 := string_keyed Tryd.underlying9
        obtain ⟨ck0, hck⟩ : ∃ ck0 : Ck, (([102, 111, 114, 109] : By), formB r k 24 m) = ck0 := ⟨_, rfl⟩
        have HCK := Lib.hid hck
        rw [hck] at HC0
        have hs1 := HB1.out.size
        clear hck hY hgc HHY HBY HSY HOF HL2 B2 HB2 hmm hh1
        go_wp2_with fail
        go_loopw [13, 65] (fun s i wr => ∃ (a : Nat) (A1 : Option Addr) (n1 c1 : Nat) (rows : List Value) (nm : Nat) (D : DataW Unit), a ≤ nn ∧ i = .int .i64 a ∧ s = .slice A1 n1 c1 ∧ n1 ≤ a + 1 ∧ nm ≤ a ∧ Hid (CksR wr w1.heap.size (.slice A1 n1 c1) (ck0 :: (l.take a).map noteC) rows) ∧ Hid (wr.ownsMap Tryd.prog 9 (plainElem (H := Unit) Tryd.prog 4) (gc + 1) nm D) ∧ Hid (∀ x, D.atKey (.string x) (.lit (.bool false)) = .lit (.bool (isIn (l.take a) x))) ∧ Hid (notesF [] l = notesF (l.take a) (l.drop a)) ∧ Hid (Below w1.heap.size w1 wr)) (fun _ i _ => nn - (intOf i).toNat)
        case atStart => exact ⟨0, _, 1, 1, _, 0, _, Nat.zero_le _, rfl, rfl, by omega, by omega, HC0, HM0, (fun x => rfl), rfl, HLY⟩
        case round =>
          clear HC0 HM0 HLY
          obtain ⟨a, A1, n1, c1, rows, nm, D, ha, rfl, rfl, hn1, hnm, hC, hMp, hA, hF, hb⟩ := hrel
          have hsz := hb.out.size
          have HBw := Lib.hid (HB1.out.trans (hb.out.mono hs1))
          by_cases hal : a < nn
          · have hai : (a : Int) < (nn : Int) := by omega
            have ha0 : (0 : Int) ≤ (a : Int) := by omega
            have haL : Hid (a < l.length) := by show _ < _; rw [HNL.out]; exact hal
            obtain ⟨b, o, rfl, hbB, q0, q1⟩ := (HN.out.below (HBw.out.mono hB) (Nat.le_refl _)).2 a hal
            obtain ⟨⟨s, t⟩, hst⟩ : ∃ p, nxOf l a = p := ⟨_, rfl⟩
            have hzz := hz.out _ (nx_mem haL.out)
            have HD := Lib.hid (drop_nx haL.out)
            have HTK := Lib.hid (take_nx haL.out)
            rw [hst] at q0 q1 hzz HD HTK
            dsimp only at q0 q1 hzz
            obtain ⟨hz1, hz2⟩ := hzz
            unfold maxLen at hz1 hz2
            obtain ⟨X, gn, hX, hgn, HX, HBX, HSX⟩ := one_box wr (.cells #[.string s, .string t] 36)
            obtain ⟨f, hf⟩ : ∃ f, noteS s.data.toList t.data.toList = f := ⟨_, rfl⟩
            have HFF := Lib.hid hf
            have HCX := Lib.hid (hC.out.below HBX.out)
            have HMX := Lib.hid (map_keep hMp.out (HBX.out.block (gc + 1) hMp.out.lt))
            have HLX := Lib.hid (hb.out.trans (HBX.out.mono hsz))
            have hsX := HLX.out.size
            have hgm := hMp.out.lt
            have hgne : gc + 1 ≠ gn := by omega
            obtain ⟨z0, z1, _, _⟩ := cells2 HX.out
            clear hst hf
            go_upto_region 23 with fail
            rw [← hX, ← hgn]
            clear hX hgn q0 q1 hC hMp hb HBX HSX
            go_wp2_with fail
            refine (CHECKNOTE_any s t (by omega) (by omega) _).mono ?_
            rw [HFF.out]
            rintro e w3 ⟨rfl, hb3⟩
            have HC3 := Lib.hid (HCX.out.below hb3)
            have HM3 := Lib.hid (map_keep HMX.out (hb3.block (gc + 1) HMX.out.lt))
            have HX3 := Lib.hid ((hb3.block gn (blk_lt HX.out)).trans HX.out)
            have HL3 := Lib.hid (HLX.out.trans (hb3.mono hsX))
            have HB3 := Lib.hid (HB1.out.trans (HL3.out.mono hs1))
            clear hb3 HCX HMX HLX HX z0 z1
            by_cases hf0 : f = 0
            · subst hf0
              have hgn3 := blk_lt HX3.out
              obtain ⟨_, _, hs40, ht200⟩ := noteS_zero HFF.out
              rw [len_dat] at hs40 ht200
              obtain ⟨z0, z1, _, _⟩ := cells2 HX3.out
              have hkey : Hid (keyOf Tryd.prog 9 (.string s) = some (.string s.data.toList)) := Go.WideMaps.keyOf_string_mk Tryd.underlying9 (by unfold maxLen; omega)
              obtain ⟨cc, hcc⟩ : ∃ cc, isIn (l.take a) s.data.toList = cc := ⟨_, rfl⟩
              have HA3 := hA.out s.data.toList
              rw [hcc] at HA3
              have HCC := Lib.hid hcc
              have HA4 := Lib.hid HA3
              clear hcc HA3
              cases cc with
              | true =>
                have HV : Hid (Z = ([], 7)) := by
                  show _ = _
                  have e7 : notesF [] l = 7 := by
                    rw [hF.out, HD.out]
                    unfold notesF
                    rw [if_neg (show ¬ noteX (s, t) ≠ 0 by unfold noteX; rw [HFF.out]; simp), if_pos HCC.out]
                  rw [← HZ2.out, if_pos (by rw [e7]; decide), e7]
                go_wp2_with (first | (at_lookup; refine wpList_look_bool _ rfl _ _ 45 rfl 9 4 law Tryd.underlying45 Tryd.underlying4 (zeroBo _) (gc + 1) nm D rfl HM3.out _ _ rfl hkey.out ?_; intro c9 hat; rw [HA4.out] at hat; injection hat with hat; injection hat with hat; subst hat))
                refine bodyPost_ret (v := .tuple #[.slice none 0 0, .int .i64 7]) (by simp [results, Tryd.results5, go_sem]) rfl ?_
                rw [HV.out]
                exact OutY.none HB3.out
              | false =>
                go_upto_region 28 with (first | (at_lookup; refine wpList_look_bool _ rfl _ _ 45 rfl 9 4 law Tryd.underlying45 Tryd.underlying4 (zeroBo _) (gc + 1) nm D rfl HM3.out _ _ rfl hkey.out ?_; intro c9 hat; rw [HA4.out] at hat; injection hat with hat; injection hat with hat; subst hat))
                go_upto_region 29 with (first | (at_mapUpdate; refine wpList_mapUpdate_own _ rfl _ _ _ 45 rfl 9 4 law Tryd.underlying45 (plainElem (H := Unit) Tryd.prog 4) (gc + 1) nm D rfl HM3.out (by unfold maxLen; omega) _ _ _ rfl rfl hkey.out (.lit (.bool true)) [] (plainElem_bool Tryd.underlying4 true) ?_; intro w6 hown6 hgr6))
                have HM6 := Lib.hid hown6
                have HC6 := Lib.hid (HC3.out.kept_map HM3.out hgr6)
                have HX6 := Lib.hid ((hgr6.block gn hgn3 (by intro e; injection e with e; exact hgne e.symm)).trans HX3.out)
                have HL6 := Lib.hid (HL3.out.trans (grown_below hgr6 HL3.out.size (fun j e => by injection e with e; omega)))
                obtain ⟨y0, y1, _, _⟩ := cells2 HX6.out
                clear hown6 hgr6 z0 z1
                obtain ⟨st, hst⟩ : ∃ st : ByteArray, s ++ ⟨#[0]⟩ ++ t = st := ⟨_, rfl⟩
                have hst2 : st.data.toList = (s.data.toList ++ [0]) ++ t.data.toList := by rw [← hst]; simp
                have hst3 : st.size ≤ 241 := by
                  rw [← len_dat, hst2]
                  simp only [List.length_append, List.length_singleton, len_dat]
                  omega
                obtain ⟨V, C, hrun, HCC9, HIV, HBV⟩ := bytes_new st w6 (by unfold maxLen; omega)
                have HCV := Lib.hid (HC6.out.below HBV.out)
                have HLV := Lib.hid (HL6.out.trans (HBV.out.mono HL6.out.size))
                have hlen1 : n1 = ((l.take a).map noteC).length + 1 := by
                  obtain ⟨A', c', e, _, _⟩ := own_form HC6.out.outer
                  injection e
                have hs6 := HLV.out.size
                have HOV : Hid (V.ownsRow w1.heap.size 42 2 (.slice A1 n1 c1) n1 (cksC (ck0 :: (l.take a).map noteC) rows)) := by
                  have := HCV.out.outer
                  rw [List.length_cons, ← hlen1] at this
                  exact this
                have HLN := Lib.hid hlen1
                have HMV := Lib.hid (map_keep HM6.out (HBV.out.block (gc + 1) HM6.out.lt))
                have hrun2 : (convert 9 26 (.string (s ++ ⟨#[0]⟩ ++ t))).run Tryd.prog w6 = .ok (.slice (some ⟨w6.heap.size, 0, none⟩) st.size C) V := by rw [hst]; exact hrun
                have HST2 := Lib.hid hst2
                clear hlen1 hst hrun hst2
                go_wp2_with (with_reducible refine wpList_push_ck rfl (.tmp 81) (.tmp 90) rfl w1.heap.size A1 n1 c1 (cksC (ck0 :: (l.take a).map noteC) rows) (.string ⟨#[110, 111, 116, 101]⟩) (.slice (some ⟨w6.heap.size, 0, none⟩) st.size C) rfl rfl V.heap.size rfl rfl rfl HOV.out (by omega) hs6 ?_; intro g8 cap8 w8 ho8 hg8)
                have HC8 : Hid (CksR w8 w1.heap.size (.slice (some ⟨g8, 0, none⟩) (n1 + 1) cap8) (ck0 :: (l.take (a + 1)).map noteC) (rows ++ [.slice (some ⟨w6.heap.size, 0, none⟩) st.size C])) := by
                  have hbv : Below V.heap.size V (V.alloc (.cells #[.string ⟨#[110, 111, 116, 101]⟩, .slice (some ⟨w6.heap.size, 0, none⟩) st.size C] 42)) := (Below.refl _ V).alloc (Nat.le_refl _) _
                  have hin : InB (V.alloc (.cells #[.string ⟨#[110, 111, 116, 101]⟩, .slice (some ⟨w6.heap.size, 0, none⟩) st.size C] 42)) (.slice (some ⟨w6.heap.size, 0, none⟩) st.size C) (noteC (s, t)).2 := by
                    show InB _ _ ((s.data.toList ++ [0]) ++ t.data.toList)
                    rw [← HST2.out]
                    exact HIV.out.below hbv
                  have := CksR.push (c := noteC (s, t)) HCV.out hbv hin (by rw [List.length_cons, ← HLN.out]; exact ho8) hg8
                  show CksR _ _ _ _ _
                  rw [HTK.out, List.map_append]
                  exact this
                have HM8 : Hid (w8.ownsMap Tryd.prog 9 (plainElem (H := Unit) Tryd.prog 4) (gc + 1) (nm + 1) (D.put (.string s.data.toList) (.lit (.bool true)))) := by
                  have hlt := HMV.out.lt
                  have hne : (Value.slice A1 n1 c1).ownBlock ≠ some (gc + 1) := by
                    obtain ⟨es, ck, hb9, _⟩ := HMV.out
                    exact own_ne_map HOV.out hb9
                  refine map_keep HMV.out ((hg8.block (gc + 1) (by simp; omega) (fun e => hne e.symm)).trans ?_)
                  exact Below.heap_alloc _ _ _ hlt
                have HA8 : Hid (∀ x, (D.put (.string s.data.toList) (.lit (.bool true))).atKey (.string x) (.lit (.bool false)) = .lit (.bool (isIn (l.take (a + 1)) x))) := fun x => by
                  rw [HTK.out, isIn_snoc]
                  by_cases hx : s.data.toList = x
                  · rw [← hx, atKey_put_same (k := .string s.data.toList) HM3.out.isMap (show WideAt.IsKeyLit (.string s.data.toList) from trivial)]
                    simp
                  · rw [atKey_put_other (fun e => hx (by injection e with e; exact e.symm)), hA.out x]
                    simp [hx]
                have HF8 : Hid (notesF [] l = notesF (l.take (a + 1)) (l.drop (a + 1))) := by
                  show _ = _
                  rw [hF.out, HD.out, HTK.out]
                  conv => lhs; unfold notesF
                  rw [if_neg (show ¬ noteX (s, t) ≠ 0 by unfold noteX; rw [HFF.out]; simp), if_neg (by rw [HCC.out]; decide)]
                have HL8 := Lib.hid (HLV.out.trans (((Below.refl w1.heap.size V).alloc hs6 _).grown hg8 (by simp; omega) (fun b e => (own_lt HOV.out e).1)))
                clear ho8 hg8
                go_roundw
                case rel => exact ⟨a + 1, _, n1 + 1, cap8, _, nm + 1, _, by omega, by go_num, rfl, by omega, by omega, HC8, HM8, HA8, HF8, HL8⟩
                case measure => simp [intOf]; omega
            · have hq3 : (f != 0) = true := by simpa using hf0
              have HV : Hid (Z = ([], f)) := by
                show _ = _
                have e7 : notesF [] l = f := by
                  rw [hF.out, HD.out]
                  unfold notesF
                  rw [if_pos (show noteX (s, t) ≠ 0 by unfold noteX; rw [HFF.out]; exact hf0)]
                  exact HFF.out
                rw [← HZ2.out, if_pos (by rw [e7]; exact hf0), e7]
              go_wp2_with fail
              refine bodyPost_ret (v := .tuple #[.slice none 0 0, .int .i64 f]) (by simp [results, Tryd.results5, go_sem]) rfl ?_
              rw [HV.out]
              exact OutY.none HB3.out
          · obtain rfl : a = nn := by omega
            have hai : ¬ (a : Int) < (a : Int) := by omega
            rw [List.take_of_length_le (by rw [HNL.out]; exact Nat.le_refl _)] at hC hF
            have HGD : Hid (packS (cksB r xss 24 l) = Z) := by
              show _ = _
              have e0 : notesF [] l = 0 := by
                rw [hF.out, List.drop_of_length_le (by rw [HNL.out]; exact Nat.le_refl _)]
                rfl
              rw [← HZ2.out, if_neg (by rw [e0]; decide)]
            have hall := Lib.hid (notesF_zero (l := l) (pre := []) (by
              rw [hF.out, List.drop_of_length_le (by rw [HNL.out]; exact Nat.le_refl _)]
              rfl))
            clear hF hA hMp HZ2
            obtain ⟨wp, rfl⟩ : ∃ x : World, x = wr := ⟨_, rfl⟩
            obtain ⟨x0, x1⟩ : wp.cell? ⟨gx, 0, none⟩ = some (.int .i64 r) ∧ wp.cell? ⟨gx, 1, none⟩ = some (.slice (some ad) k c) := by
              obtain ⟨p0, p1, _, _⟩ := sbox_cells B1.out
              have h9 := blk_lt B1.out.box
              exact ⟨(hb.out.cell (p := ⟨gx, 0, none⟩) h9).trans p0, (hb.out.cell (p := ⟨gx, 1, none⟩) h9).trans p1⟩
            go_wp2_with fail
            refine (LENGTH_any r (some ad) k c xss _ B (by omega) (hh.out.below (HBw.out.mono hB) (Nat.le_refl _)) hn0).mono ?_
            rw [HM.out]
            rintro e w5 ⟨rfl, hb5⟩
            have HC5 := Lib.hid (hC.out.below hb5)
            have HL5 := Lib.hid (hb.out.trans (hb5.mono hsz))
            have HB5 := Lib.hid (HB1.out.trans (HL5.out.mono hs1))
            have hh5 := Lib.hid (hh.out.below (HB5.out.mono hB) (Nat.le_refl _))
            have HX5 := Lib.hid ((HL5.out.block gx (blk_lt B1.out.box)).trans B1.out.box)
            have hgx5 := blk_lt HX5.out
            have hs5 := HL5.out.size
            have hB5 : B ≤ w5.heap.size := by omega
            clear hb5 hb hC x0 x1
            go_wp2_with fail
            go_loopw [18, 95] (fun s i wr => ∃ (i9 : Nat) (A5 : Option Addr) (n5 c5 : Nat), i9 ≤ m ∧ i = .int .i64 i9 ∧ s = .slice A5 n5 c5 ∧ n5 ≤ 48 * i9 ∧ Hid (OwnBys wr w5.heap.size (.slice A5 n5 c5) (dataB 24 xss i9)) ∧ Hid (Below w5.heap.size w5 wr)) (fun _ i _ => m - (intOf i).toNat)
            case atStart => exact ⟨0, none, 0, 0, Nat.zero_le _, rfl, rfl, by omega, World.ownsRow_nil _ _ _ _, Below.refl _ _⟩
            case round =>
              obtain ⟨wq, rfl⟩ : ∃ x : World, x = wr := ⟨_, rfl⟩
              obtain ⟨i9, A5, n5, c5, hi9, rfl, rfl, hn5, hO, hb⟩ := hrel
              obtain ⟨x0, x1, _, _⟩ := cells2 ((hb.out.block gx hgx5).trans HX5.out)
              by_cases hil : i9 < m
              · have hii : (i9 : Int) < (m : Int) := by omega
                have hi0 : (0 : Int) ≤ (i9 : Int) := by omega
                go_wp2_with fail
                go_loopw [18, 101] (fun s t wr => ∃ (a9 : Nat) (A6 : Option Addr) (n6 c6 : Nat), a9 ≤ k ∧ t = .int .i64 a9 ∧ s = .slice A6 n6 c6 ∧ n6 ≤ 48 * i9 + 3 * a9 ∧ Hid (OwnBys wr w5.heap.size (.slice A6 n6 c6) (dataB 24 xss i9 ++ (xss.take a9).flatMap (fun l => smpC 24 (elOf l i9)))) ∧ Hid (Below w5.heap.size w5 wr)) (fun _ t _ => k - (intOf t).toNat)
                case atStart => exact ⟨0, A5, n5, c5, Nat.zero_le _, rfl, rfl, by omega, by rw [List.take_zero, List.flatMap_nil, List.append_nil]; exact hO, hb⟩
                case round =>
                  clear hO hb x0 x1
                  obtain ⟨wt, rfl⟩ : ∃ x : World, x = wr := ⟨_, rfl⟩
                  obtain ⟨a9, A6, n6, c6, ha9, rfl, rfl, hn6, hO, hb⟩ := hrel
                  have ha90 : (0 : Int) ≤ (a9 : Int) := by omega
                  by_cases hal9 : a9 < k
                  · have hai9 : (a9 : Int) < (k : Int) := by omega
                    have hax : Hid (a9 < xss.length) := by show _ < _; rw [hl.out]; exact hal9
                    have him : Hid (i9 < len0 xss) := by show _ < _; rw [HM.out]; exact hil
                    obtain ⟨A', n', c', hadB, hcell, hn', hc', hi'⟩ := (hh5.out.below hb.out hB5).row hal9
                    obtain rfl : m = n' := ((hok.out.row hax.out).1.trans HM.out).symm.trans hi'.1
                    obtain ⟨ad', rfl⟩ := hi'.addr (by omega)
                    have hcell2 := (hi'.at_ hil).2
                    obtain ⟨y1, y2⟩ := hok.out.el hax.out him.out
                    have HST := Lib.hid (colB_step (b := 24) (i := i9) hax.out)
                    obtain ⟨y, hy⟩ : ∃ y, elOf (rowOf xss a9) i9 = y := ⟨_, rfl⟩
                    rw [hy] at hcell2 y1 y2 HST
                    have hst9 := hb.out.size
                    unfold maxLen at hc'
                    clear hy hi'
                    have HSM : Hid (smpC 24 y = leZ y 3) := by show _ = _; simp [smpC]
                    go_wp2_with fail
                    refine (PUT_any w5.heap.size A6 n6 c6 _ y 3 (by omega) (by omega) (by omega) (by omega) _ hst9 hO).mono ?_
                    rintro e w7 ⟨A7, n7, c7, rfl, ho7, hg7⟩
                    rw [← HSM.out, List.append_assoc, ← HST.out] at ho7
                    have hn7 : n7 ≤ 48 * i9 + 3 * (a9 + 1) := by
                      have e1 := own_len_by ho7
                      have e2 := own_len_by hO.out
                      rw [HST.out, ← List.append_assoc, List.length_append, ← e2, smpC_len] at e1
                      have e3 : ((24 : Int) / 8).toNat ≤ 3 := by decide
                      omega
                    have HO7 := Lib.hid ho7
                    have HB7 := Lib.hid (hb.out.trans (hg7.below hst9 (fun j hj => (own_lt_by hO.out j hj).1)))
                    clear ho7 hg7
                    go_wp2_with fail
                    go_roundw
                    case rel => exact ⟨a9 + 1, A7, n7, c7, by omega, by go_num, rfl, hn7, HO7, HB7⟩
                    case measure => simp [intOf]; omega
                  · obtain rfl : a9 = k := by omega
                    have hai9 : ¬ (a9 : Int) < (a9 : Int) := by omega
                    have HO7 := Lib.hid (by have := hO.out; rw [colB_all hl.out, ← dataB_step] at this; exact this)
                    go_wp2_with fail
                    go_roundw
                    case rel => exact ⟨i9 + 1, A6, n6, c6, by omega, by go_num, rfl, by omega, HO7, hb⟩
                    case measure => simp [intOf]; omega
              · obtain rfl : i9 = m := by omega
                have hii : ¬ (i9 : Int) < (i9 : Int) := by omega
                have hlen1 : n1 = (l.map noteC).length + 1 := by
                  obtain ⟨A', c', e, _, _⟩ := own_form HC5.out.outer
                  injection e
                have HCq := Lib.hid (HC5.out.below hb.out)
                have HOV : Hid (wq.ownsRow w1.heap.size 42 2 (.slice A1 n1 c1) n1 (cksC (ck0 :: l.map noteC) rows)) := by
                  have := HCq.out.outer
                  rw [List.length_cons, ← hlen1] at this
                  exact this
                have HLN := Lib.hid hlen1
                have hsq : w1.heap.size ≤ wq.heap.size := Nat.le_trans hs5 hb.out.size
                obtain ⟨A5', c5', eq5, hq1, hq2⟩ := hO.out.form
                have HDI := Lib.hid hO.out.inB
                have hdl : List.length (dataB 24 xss i9) ≤ 48 * i9 := by have := own_len_by hO.out; omega
                clear hlen1 eq5 hq1 hq2
                go_wp2_with (with_reducible refine wpList_push_ck rfl (.tmp 118) (.tmp 121) rfl w1.heap.size A1 n1 c1 (cksC (ck0 :: l.map noteC) rows) (.string ⟨#[100, 97, 116, 97]⟩) (.slice A5 n5 c5) rfl rfl wq.heap.size rfl rfl rfl HOV.out (by omega) hsq ?_; intro g8 cap8 w8 ho8 hg8)
                have HE : Hid (cksB r xss 24 l = (ck0 :: l.map noteC) ++ [([100, 97, 116, 97], dataB 24 xss i9)]) := by
                  show _ = _
                  unfold cksB
                  rw [hl.out, HM.out, HCK.out]
                have hbv : Below wq.heap.size wq (wq.alloc (.cells #[.string ⟨#[100, 97, 116, 97]⟩, .slice A5 n5 c5] 42)) := (Below.refl _ wq).alloc (Nat.le_refl _) _
                have hC8 := CksR.push (c := (([100, 97, 116, 97] : By), dataB 24 xss i9)) HCq.out hbv (HDI.out.below hbv) (by rw [List.length_cons, ← HLN.out]; exact ho8) hg8
                rw [← HE.out] at hC8
                have HA8 := Lib.hid hC8.at_
                obtain ⟨A9, c9, e9, hf1, hf2⟩ := own_form ho8
                injection e9 with _ _ e9
                subst e9
                have hwq : w.heap.size ≤ wq.heap.size := Nat.le_trans hs1 hsq
                have HB8 := Lib.hid (((HB5.out.trans (hb.out.mono HB5.out.size)).alloc hwq (.cells #[.string ⟨#[100, 97, 116, 97]⟩, .slice A5 n5 c5] 42)).grown hg8 (by simp; omega) (fun j e => Nat.le_trans hs1 (own_lt HOV.out e).1))
                have hd9 : Hid (∀ c ∈ cksB r xss 24 l, c.2.length ≤ 140737488351232) := fun c9 hc9 => by
                  rw [HE.out] at hc9
                  simp only [List.mem_append, List.mem_cons, List.mem_map, List.not_mem_nil, or_false] at hc9
                  rcases hc9 with (rfl | ⟨x, hx, rfl⟩) | rfl
                  · rw [← HCK.out]; simp [formB, leZ_length]
                  · have := noteC_len (hall.out x hx); omega
                  · dsimp only; omega
                clear ho8 hg8 hC8 hbv HOV HCq HDI hb hO
                refine (PACK_any (some ⟨g8, 0, none⟩) (n1 + 1) cap8 (cksB r xss 24 l) hd9 ⟨hf1, hf2⟩ _ w8.heap.size (Nat.le_refl _) HA8.out).mono ?_
                rw [HGD.out]
                rintro e w9 ⟨v, rfl, hO9, hb9⟩
                have hw8 := HB8.out.size
                have HO9 := Lib.hid (own_base hO9 hw8)
                have HB9 := Lib.hid (HB8.out.trans (hb9.mono hw8))
                clear hO9 hb9 HA8 HB8
                go_wp2_with fail
                refine bodyPost_ret (v := .tuple #[v, .int .i64 Z.2]) (by simp [results, Tryd.results5, go_sem]) rfl ?_
                exact ⟨_, rfl, HO9.out, HB9.out⟩
theorem BYTES_any (r bits : Int) (A AN : Option Addr) (n c nn cN : Nat) (xss : List (List Int)) (l : List Nx) (hz : Hid (∀ x ∈ l, x.1.size ≤ maxLen ∧ x.2.size ≤ maxLen)) (w : World) (B : Nat) (hB : B ≤ w.heap.size) (hh : Hid (RowsAt w B A n xss)) (HN : Hid (NtsAt w B AN nn l)) :
    Calls Tryd.prog 5 #[.agg #[.int .i64 r, .slice A n c], .int .i64 bits, .slice AN nn cN] w (OutY w (bytesS r xss bits l)) := by
  by_cases hc : chkS r xss = 0
  · by_cases hb : bits ≠ 16 ∧ bits ≠ 24
    · have e : bytesS r xss bits l = ([], 1) := by unfold bytesS; rw [if_neg (by simp [hc]), if_pos hb]
      rw [e]
      exact BYTES_rng r bits A AN n c nn cN xss hc hb w B hB hh
    · have hn : 0 < n := by have := (chkS_ok hc).some; have := hh.out.1; omega
      obtain ⟨ad, rfl⟩ := hh.out.addr hn
      rcases (show bits = 16 ∨ bits = 24 by omega) with rfl | rfl
      · exact BYTES_16 r ad AN n c nn cN xss l hc hz w B hB hh HN
      · exact BYTES_24 r ad AN n c nn cN xss l hc hz w B hB hh HN
  · have e : bytesS r xss bits l = ([], chkS r xss) := by unfold bytesS; rw [if_pos hc]
    rw [e]
    exact BYTES_chk r bits A AN n c nn cN xss hc w B hB hh
end Go.Proofs.YtlnjildkdmeflaaDoor
