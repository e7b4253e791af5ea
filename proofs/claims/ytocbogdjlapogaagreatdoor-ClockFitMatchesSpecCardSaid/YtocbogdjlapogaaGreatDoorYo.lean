/- The document's limbs: small, divide. -/
import Derived.Test.YtocbogdjlapogaaGreatDoorYn
import Derived.Test.YtocbogdjlapogaaGreatDoorMem
import Derived.Deep.Cut
import Derived.Deep.DeepCutAuto
import Derived.Deep.LoopGhost
set_option linter.unusedSimpArgs false
set_option linter.unusedVariables false
namespace Go.Dw
open Go.RowKit
theorem RowAt.reads {k : IntKind} {T : TypeId} {w : World} {B n : Nat} {A : Option Addr} {xs : List Nat} (h : RowAt k T w B A n xs) : Reads w B 1 A n (xs.map fun d => Value.int k ((d : Nat) : Int)) := by
  refine ⟨by simp [h.1], fun hn => ?_⟩
  obtain ⟨b, o, rfl, hb⟩ := h.addr hn
  refine ⟨_, rfl, hb, fun j u hu => ?_⟩
  have hj : j < n := by
    have := (List.getElem?_eq_some_iff.1 hu).1
    simp only [List.length_map, h.1] at this
    exact this
  rw [show (⟨b, o, none⟩ : Addr).add j = ⟨b, o + j, none⟩ by unfold Addr.add; split <;> simp_all, h.cell hj, ← hu]
  have hx : j < xs.length := by have := h.1; omega
  simp [List.getElem?_map, List.getElem?_eq_getElem hx, List.getD]
/-- a row behind a row -/
theorem wpList_app_num {P : Program} {ops : Array Oper} {rest : List Oper} {o : Oper} {a : Act} {Q : Exit → Act → World → Prop} {w : World} (hgd : o.guard = none) (s x : Operand) (T E : TypeId) (k : IntKind) (bytes : Nat)
    (ho : o.op = .call { callee := .builtin .append, args := #[s, x], argTypes := #[T, T] }) (hT : P.underlying T = some (.slice E)) (hE : (P.info? E).map (fun i => (i.zero, i.size, i.bytes)) = some (some (.int k 0), 1, bytes)) (base : Nat) (A : Option Addr) (n c : Nat) (L : List Nat) (B : Nat) (A2 : Option Addr) (m c2 : Nat) (M : List Nat)
    (hs : a.eval s = .slice A n c) (hx : a.eval x = .slice A2 m c2) (hown : OwnN k E w base A n c L) (hr : RowAt k E w B A2 m M) (hn : n ≤ 1000000000000) (hm : m ≤ 1000000000000) (hbytes : bytes ≤ 8) (hb : base ≤ w.heap.size)
    (h : ∀ A' c' w', Hid (OwnN k E w' base A' (n + m) c' (L ++ M)) → Hid (Below base w w') → wpList P ops Q rest (a.put o.dst (.slice A' (n + m) c')) w') :
    wpList P ops Q (o :: rest) a w := by
  obtain ⟨i1, e0, e1, e2, e3⟩ := info_parts hE
  have hl := hown.1
  have hb9 : (n + m) * bytes ≤ (n + m) * 8 := Nat.mul_le_mul_left _ hbytes
  refine wpList_append_any w hgd s x T ho base E i1 _ 1 bytes hT e0 e1 e2 e3 rfl (by omega) (.slice A n c) n _ hs hown.2 B A2 m c2 (M.map fun d => Value.int k ((d : Nat) : Int)) hx hr.reads ?_ (by simp only [maxLen]; omega) (by omega) hb ?_
  · intro u hu
    obtain ⟨d, _, rfl⟩ := List.mem_map.1 hu
    rfl
  · intro v' w' h1 h2 _
    obtain ⟨A', c', rfl, _, _⟩ := own_form h1
    refine h A' c' w' ⟨by simp [hl, hr.1], by simpa using h1⟩ ((Below.refl base w).grown h2 hb (fun b e => (own_lt hown.2 e).1))
end Go.Dw
namespace Go.Proofs.YtocbogdjlapogaaGreatDoor
open Go.RowKit Go.Dw
theorem blk1 (w : World) (d : Nat) : BlkN .i64 3 (w.alloc (.cells #[.int .i64 (d : Int)] 3)) w.heap.size [d] := by
  have h := BlkN.mk .i64 3 w [d]
  simpa [cellsN] using h
set_option maxRecDepth 100000 in
set_option maxHeartbeats 1000000 in
theorem RSMALL_any (A : Option Addr) (n c x d : Nat) (hn : n ≤ 400000000000) (hd : d < 10000) (w : World) (B : Nat) (hB : B ≤ w.heap.size) (hh : Hid (LimAt w B A n c x)) :
    Calls Tryz.prog 65 #[.slice A n c, .int .i64 d] w (OutL w (x * d) (n + 1)) := by
  have HD := Lib.hid hd
  clear hd
  go_enter Tryz.func65, Tryz.ntmps65
  go_wp2_with fail
  have hb1 := blk1 w d
  obtain ⟨W, hW⟩ : ∃ W, W = w.alloc (.cells #[.int .i64 (d : Int)] 3) := ⟨_, rfl⟩
  have HBW : Hid (Below w.heap.size w W) := by show Below _ _ _; rw [hW]; exact (Below.refl _ _).alloc (Nat.le_refl _) _
  rw [← hW] at hb1 ⊢
  have HB := Lib.hid hb1
  clear hb1 hW
  refine (RTRIM_blk w.heap.size 1 [d] d W HB rfl (by unfold maxLen; omega) (DigN.cons HD.out (DigN.nil _)) (by show _ = _; simp [valB])).mono ?_
  rintro e w' ⟨⟨m, rfl, h1, h2⟩, rfl⟩
  have H1 := Lib.hid h1
  clear h1
  go_wp2_with fail
  refine (RTIMES_any A _ n c x m 1 d hn (by omega) _ W.heap.size (Nat.le_refl _) (Lib.hid (hh.out.to HBW.out hB (Nat.le_trans hB HBW.out.size))) H1).mono ?_
  rintro e w2 ⟨A2, n2, c2, rfl, h3, h4, h5⟩
  have H3 := Lib.hid h3
  have HB5 := Lib.hid h5
  clear h3 h5
  go_wp2_with fail
  go_ret
  exact ⟨_, _, _, rfl, H3.out, by omega, HBW.out.trans (HB5.out.mono HBW.out.size)⟩
def OutL2 (w : World) (x y k l : Nat) (e : Ending) (w' : World) : Prop := ∃ A1 n1 c1 A2 n2 c2, e = .returned (.tuple #[.slice A1 n1 c1, .slice A2 n2 c2]) ∧ LimAt w' w'.heap.size A1 n1 c1 x ∧ LimAt w' w'.heap.size A2 n2 c2 y ∧ n1 ≤ k ∧ n2 ≤ l ∧ Below w.heap.size w w'
theorem le_div_of {y m s : Nat} (hy : 0 < y) : m ≤ s / y ↔ y * m ≤ s := by rw [Nat.le_div_iff_mul_le hy, Nat.mul_comm]
set_option maxRecDepth 100000 in
set_option maxHeartbeats 4000000 in
theorem RDIVIDE_any (A A' : Option Addr) (n c x n' c' y : Nat) (hn : n ≤ 100000000) (hn' : n' ≤ 100000000) (hy : 0 < y) (w : World) (B : Nat) (hB : B ≤ w.heap.size) (hh : Hid (LimAt w B A n c x)) (hh' : Hid (LimAt w B A' n' c' y)) :
    Calls Tryz.prog 58 #[.slice A n c, .slice A' n' c'] w (OutL2 w (x / y) (x % y) n n') := by
  obtain ⟨hc1, hc2, xs, hx, hv, hr⟩ := hh.out
  have hl := hr.1
  unfold maxLen at hc2
  have HX := Lib.hid hx
  have HV := Lib.hid hv
  have HR := Lib.hid hr
  have HL := Lib.hid hl
  have HY := Lib.hid hy
  clear hx hv hr hl hh hy
  have hmk := mkInts n (by omega)
  go_enter Tryz.func58, Tryz.ntmps58
  go_wp2_with fail
  obtain ⟨g, hg⟩ : ∃ g, g = w.heap.size := ⟨_, rfl⟩
  rw [← hg]
  have HG := Lib.hid (show w.heap.size ≤ g by rw [hg]; exact Nat.le_refl _)
  obtain ⟨W, hW⟩ : ∃ W, W = w.alloc (.cells (cellsN .i64 (List.replicate n 0)) 3) := ⟨_, rfl⟩
  have HB0 : Hid (BlkN .i64 3 W g (List.replicate n 0)) := by rw [hW, hg]; exact BlkN.mk _ _ _ _
  have HW0 : Hid (Below w.heap.size w W) := by show Below _ _ _; rw [hW]; exact (Below.refl _ _).alloc (Nat.le_refl _) _
  rw [← hW]
  clear hW hg hmk
  go_loopw [7, 8] (fun rv i wr => ∃ (k : Nat) (z : Int) (Ar : Option Addr) (nr cr r : Nat) (L : List Nat), k ≤ n ∧ i = .int .i64 z ∧ rv = .slice Ar nr cr ∧ nr ≤ n' ∧ Hid (z = (k : Int) - 1) ∧ Hid (r < y) ∧ Hid (LimAt wr wr.heap.size Ar nr cr r) ∧ Hid (L.length = n) ∧ Hid (DigN 10000 L) ∧ Hid (valB 10000 (xs.drop k) = valB 10000 (L.drop k) * y + r) ∧ Hid (BlkN .i64 3 wr g L) ∧ Hid (Below w.heap.size w wr)) (fun _ i _ => (intOf i + 1).toNat)
  case atStart => exact ⟨n, _, none, 0, 0, 0, _, Nat.le_refl _, rfl, rfl, Nat.zero_le _, rfl, HY, NumAt.nil _ _ _ _ _, by show _ = _; simp, DigN.zeros (by omega) _, by show _ = _; rw [List.drop_of_length_le (by rw [HL.out]; exact Nat.le_refl _), List.drop_of_length_le (by simp)]; simp [valB], HB0, HW0⟩
  case round =>
    obtain ⟨k, z, Ar, nr, cr, r, L, hk, rfl, rfl, hnr, hz, hr, hrest, hL, hD, hI, hb, hw⟩ := hrel
    by_cases h0 : 0 < k
    · obtain ⟨j, rfl⟩ : ∃ j, k = j + 1 := ⟨k - 1, by omega⟩
      obtain rfl : z = (j : Int) := by have := hz.out; omega
      obtain ⟨q, o, rfl, hq⟩ := HR.out.addr (by omega)
      have hcell := (HR.out.below hw.out hB).cell (i := j) (by omega)
      have hdx := HX.out.1.get (by omega) j
      obtain ⟨d, hd1⟩ : ∃ d, xs.getD j 0 = d := ⟨_, rfl⟩
      rw [hd1] at hcell hdx
      have HD1 := Lib.hid hd1
      have hj : (0 : Int) ≤ (j : Int) ∧ (j : Int) < (n : Int) := by omega
      obtain ⟨hj1, hj2⟩ := hj
      clear hd1 hz
      obtain ⟨wo, rfl⟩ : ∃ wo : World, wo = wr := ⟨_, rfl⟩
      have hgl := hb.out.lt
      go_upto_region 7 with (fail)
      have hb1 := blk1 wo d
      obtain ⟨g1, hg1⟩ : ∃ g1, g1 = wo.heap.size := ⟨_, rfl⟩
      obtain ⟨W1, hW1⟩ : ∃ W, W = wo.alloc (.cells #[.int .i64 (d : Int)] 3) := ⟨_, rfl⟩
      have HBW : Hid (Below wo.heap.size wo W1) := by show Below _ _ _; rw [hW1]; exact (Below.refl _ _).alloc (Nat.le_refl _) _
      rw [← hW1, ← hg1] at hb1
      rw [← hW1, ← hg1]
      have HO1 : Hid (OwnN .i64 3 W1 wo.heap.size (some ⟨g1, 0, none⟩) 1 1 [d]) := OwnN.of_blk hb1 (by omega) (by simp [maxLen])
      obtain ⟨hrc1, hrc2, rs, hrx, hrv, hrr⟩ := (hrest.out.below HBW.out (Nat.le_refl _))
      have HRX := Lib.hid hrx
      have HRV := Lib.hid hrv
      have HRR := Lib.hid hrr
      clear hb1 hW1 hg1 hrx hrv hrr
      go_wp2_with (at_builtin; refine wpList_app_num rfl (.tmp 28) (.tmp 29) 48 3 .i64 8 rfl Tryz.underlying48 int_info wo.heap.size _ 1 1 [d] wo.heap.size Ar nr cr rs rfl rfl HO1.out HRR.out (by omega) (by omega) (by omega) HBW.out.size ?_; intro A3 c3 W2 p1 p2)
      obtain ⟨s, hs⟩ : ∃ s, r * 10000 + d = s := ⟨_, rfl⟩
      have HS := Lib.hid hs
      clear hs
      have HVS : Hid (valB 10000 ([d] ++ rs) = s) := by show _ = _; rw [List.singleton_append]; simp only [valB]; rw [HRV.out, ← HS.out]; omega
      obtain ⟨g3, rfl, hg3, hg3'⟩ := p1.out.addr (by omega)
      refine (RTRIM_own _ _ _ _ s _ _ p1 (by rw [List.singleton_append]; exact DigN.cons hdx HRX.out.1) HVS).mono ?_
      rintro e w9 ⟨⟨m1, rfl, h1, h2⟩, rfl⟩
      have H1 := Lib.hid h1
      have HW2 : Hid (Below wo.heap.size wo W2) := HBW.out.trans p2.out
      have hsz2 := HW2.out.size
      have HY2 := Lib.hid (hh'.out.to (hw.out.trans (HW2.out.mono hw.out.size)) hB (Nat.le_trans hB (Nat.le_trans hw.out.size HW2.out.size)))
      clear h1 p1 p2 HO1 HRR
      have HSY : Hid (s / y ≤ 9999) := by
        show _ ≤ _
        refine Nat.le_of_lt_succ ((Nat.div_lt_iff_lt_mul HY.out).2 ?_)
        have h1 := hr.out
        have h2 := Nat.mul_le_mul_right 10000 (show r + 1 ≤ y from h1)
        rw [← HS.out, Nat.add_mul] at *
        rw [Nat.mul_comm (Nat.succ 9999) y]
        omega
      go_wp2_with fail
      go_loopw [10, 11] (fun lv hv wi => ∃ lo hi : Nat, lv = .int .i64 lo ∧ hv = .int .i64 hi ∧ lo ≤ hi ∧ hi ≤ 9999 ∧ Hid (lo ≤ s / y) ∧ Hid (s / y ≤ hi) ∧ Hid (Below W2.heap.size W2 wi)) (fun lv hv _ => (intOf hv - intOf lv).toNat)
      case atStart => exact ⟨0, 9999, rfl, rfl, by omega, by omega, Nat.zero_le _, HSY, Below.refl _ _⟩
      case round =>
        obtain ⟨lo, hi, rfl, rfl, hlh, hhi, hlo, hhi2, hwi⟩ := hrel
        by_cases hlt : lo < hi
        · obtain ⟨u, hu⟩ : ∃ u, lo + hi = u := ⟨_, rfl⟩
          have hui : (lo : Int) + (hi : Int) = (u : Int) := by omega
          obtain ⟨m, hm⟩ : ∃ m, (u + 1) / 2 = m := ⟨_, rfl⟩
          have hmi : ((u : Int) + 1).tdiv 2 = (m : Int) := by rw [← hm]; exact tdivN (u + 1) 2
          have hu9 : u < 20000 := by omega
          have hm1 : lo < m := by omega
          have hm2 : m ≤ hi := by omega
          clear hu hm
          obtain ⟨kc, hkc⟩ : ∃ kc, cmpN (y * m) s = kc := ⟨_, rfl⟩
          have HKC := Lib.hid hkc
          clear hkc
          go_wp2_with fail
          refine (RSMALL_any A' n' c' y m (by omega) (by omega) _ W2.heap.size hwi.out.size (Lib.hid (HY2.out.below hwi.out (Nat.le_refl _)))).mono ?_
          rintro e w3 ⟨A4, n4, c4, rfl, h3, h4, h5⟩
          have H3 := Lib.hid h3
          have HB5 := Lib.hid (hwi.out.trans (h5.mono hwi.out.size))
          clear h3 h5
          go_wp2_with fail
          refine (RCMP_any A4 _ n4 c4 (y * m) m1 c3 s _ w3.heap.size H3 (Lib.hid (H1.out.to HB5.out (Nat.le_refl _) HB5.out.size))).mono ?_
          rintro e w4 ⟨rfl, hb4⟩
          rw [HKC.out]
          have HB4 := Lib.hid (HB5.out.trans (hb4.mono HB5.out.size))
          clear hb4
          by_cases hle : y * m ≤ s
          · have hk9 : kc ≤ 0 := by
              rw [← HKC.out]; unfold cmpN
              split
              · omega
              · rw [if_pos (by omega)]; omega
            have HLE : Hid (m ≤ s / y) := (le_div_of HY.out).2 hle
            clear hle
            go_wp2_with fail
            go_roundw
            case rel => exact ⟨m, hi, rfl, rfl, hm2, hhi, HLE, hhi2, HB4⟩
            case measure => simp [intOf] <;> omega
          · have hk9 : 0 < kc := by
              rw [← HKC.out]; unfold cmpN
              rw [if_neg (by omega), if_neg (by omega)]; omega
            have HLE : Hid (s / y ≤ m - 1) := by
              have : ¬ m ≤ s / y := fun h => hle ((le_div_of HY.out).1 h)
              show _ ≤ _
              omega
            clear hle
            go_wp2_with fail
            go_roundw
            case rel => exact ⟨lo, m - 1, rfl, by go_num, by omega, by omega, hlo, HLE, HB4⟩
            case measure => simp [intOf] <;> omega
        · obtain rfl : lo = hi := by omega
          have HQ : Hid (s / y = lo) := Nat.le_antisymm hhi2.out hlo.out
          have HMOD : Hid (s - y * lo = s % y) := by
            show _ = _
            have := Nat.div_add_mod s y
            rw [HQ.out] at this
            omega
          have HLE : Hid (y * lo ≤ s) := (le_div_of HY.out).1 hlo.out
          have hwi2 := Lib.hid (HW2.out.trans (hwi.out.mono HW2.out.size))
          have hbi := hb.out.below hwi2.out hgl
          have hold := hbi.cell (i := j) (by rw [hL.out]; omega)
          have hfr := hbi.frozen j
          have hset := hbi.set j lo
          have HSET := Lib.hid hset
          have hgw : w.heap.size ≤ g := HG.out
          clear hbi hset
          go_upto_region 16 with (fail)
          obtain ⟨W5, hW5⟩ : ∃ W5, W5 = wr.setCell ⟨g, j, none⟩ (.int .i64 (lo : Int)) := ⟨_, rfl⟩
          rw [← hW5] at HSET
          rw [← hW5]
          have HBS : Hid (Below w.heap.size wo W5) := by show Below _ _ _; rw [hW5]; exact ((hwi2.out.mono (by have := hw.out.size; omega))).setCell HG.out _
          have hs5 : W5.heap.size = wr.heap.size := by rw [hW5]; simp
          have HSR : Hid (LimAt W5 W5.heap.size (some ⟨g3, 0, none⟩) m1 c3 s) := by
            show NumAt _ _ _ _ _ _ _ _ _
            rw [hs5]
            refine (H1.out.of_block ?_).mono hwi.out.size
            rw [hW5]
            exact (Below.heap_setCell _ _ _ _ (by dsimp only; omega)).trans (hwi.out.block g3 hg3')
          have HYR : Hid (LimAt W5 W5.heap.size A' n' c' y) := hh'.out.to (hw.out.trans HBS.out) hB (Nat.le_trans hB (hw.out.trans HBS.out).size)
          have HNEW := Lib.hid (divw_step (b := 10000) (X := xs) (w := y) (s := s) (r := r) (L := L) (k := j) (by rw [hL.out]; omega) (by rw [HL.out]; omega) (by rw [HD1.out, HS.out]) hI.out)
          rw [HQ.out] at HNEW
          clear hW5 H1 HY2 hold hfr
          go_wp2_with fail
          refine (RSMALL_any A' n' c' y lo (by omega) (by omega) _ W5.heap.size (Nat.le_refl _) HYR).mono ?_
          rintro e w3 ⟨A4, n4, c4, rfl, h3, h4, h5⟩
          have H3 := Lib.hid h3
          have HB5 := Lib.hid h5
          clear h3 h5
          go_wp2_with fail
          refine (RLESS_any _ A4 m1 c3 s n4 c4 (y * lo) (by omega) HLE.out _ w3.heap.size (Nat.le_refl _) (Lib.hid (HSR.out.to HB5.out (Nat.le_refl _) HB5.out.size)) H3).mono ?_
          rintro e w4 ⟨A6, n6, c6, rfl, h6, h7, h8⟩
          rw [HMOD.out] at h6
          have HB8 := Lib.hid (HB5.out.trans (h8.mono HB5.out.size))
          have hn6 : n6 ≤ n' := h6.len_mono (by omega) hh'.out (Nat.le_of_lt (Nat.mod_lt s HY.out))
          have H6 := Lib.hid h6
          clear h6 h8
          go_wp2_with fail
          go_roundw
          case rel =>
            refine ⟨j, _, A6, n6, c6, s % y, L.set j lo, by omega, rfl, rfl, hn6, by show _ = _; omega, Nat.mod_lt s HY.out, H6, ?_, ?_, HNEW, HSET.out.below HB8.out HSET.out.lt, (hw.out.trans HBS.out).trans (HB8.out.mono (hw.out.trans HBS.out).size)⟩
            · show _ = _; rw [List.length_set]; exact hL.out
            · exact hD.out.set (by omega) j
          case measure => simp [intOf] <;> omega
    · obtain rfl : k = 0 := by omega
      obtain rfl : z = -1 := by have := hz.out; omega
      have hI2 := hI.out
      rw [List.drop_zero, List.drop_zero, HV.out] at hI2
      have HVL : Hid (valB 10000 L = x / y) := by
        show _ = _
        rw [hI2, Nat.add_comm, Nat.add_mul_div_right _ _ HY.out, Nat.div_eq_of_lt hr.out, Nat.zero_add]
      have HVM : Hid (r = x % y) := by
        show _ = _
        rw [hI2, Nat.add_comm, Nat.add_mul_mod_self_right, Nat.mod_eq_of_lt hr.out]
      clear hI2
      go_wp2_with fail
      refine (RTRIM_blk _ _ _ _ _ hb hL (by unfold maxLen; omega) hD HVL).mono ?_
      rintro e w9 ⟨⟨m, rfl, h1, h2⟩, rfl⟩
      have H1 := Lib.hid h1
      clear h1
      go_wp2_with fail
      go_ret2
      exact ⟨_, _, _, _, _, _, rfl, H1.out, by rw [← HVM.out]; exact hrest.out, h2, hnr, hw.out⟩
end Go.Proofs.YtocbogdjlapogaaGreatDoor

/- The document's numbers: common, lowest. -/
set_option linter.unusedSimpArgs false
set_option linter.unusedVariables false
namespace Go.Proofs.YtocbogdjlapogaaGreatDoor
open Go.RowKit Go.Dw
/-- a number of the document in memory -/
def NumR (w : World) (B : Nat) (neg : Bool) (A : Option Addr) (n c : Nat) (A' : Option Addr) (n' c' : Nat) (q : Rat) : Prop := neg = decide (q.num < 0) ∧ LimAt w B A n c q.num.natAbs ∧ LimAt w B A' n' c' q.den
def OutR (w : World) (q : Rat) (k l : Nat) (e : Ending) (w' : World) : Prop := ∃ neg A n c A' n' c', e = .returned (.agg #[.bool neg, .slice A n c, .slice A' n' c']) ∧ NumR w' w'.heap.size neg A n c A' n' c' q ∧ n ≤ k ∧ n' ≤ l ∧ Below w.heap.size w w'
theorem NumR.below {w w' : World} {B B' : Nat} {neg : Bool} {A A' : Option Addr} {n c n' c' : Nat} {q : Rat} (h : NumR w B neg A n c A' n' c' q) (hb : Below B' w w') (hB : B ≤ B') : NumR w' B neg A n c A' n' c' q := ⟨h.1, h.2.1.below hb hB, h.2.2.below hb hB⟩
theorem NumR.to {w w' : World} {B B' : Nat} {neg : Bool} {A A' : Option Addr} {n c n' c' : Nat} {q : Rat} (h : NumR w B neg A n c A' n' c' q) (hb : Below B' w w') (hB : B ≤ B') (hC : B ≤ w'.heap.size) : NumR w' w'.heap.size neg A n c A' n' c' q := ⟨h.1, h.2.1.to hb hB hC, h.2.2.to hb hB hC⟩
theorem r3_cells {w : World} {g : Nat} {v0 v1 v2 : Value} {T : TypeId} (h : w.heap[g]? = some (.cells #[v0, v1, v2] T (0, 0))) : w.cell? ⟨g, 0, none⟩ = some v0 ∧ w.cell? ⟨g, 1, none⟩ = some v1 ∧ w.cell? ⟨g, 2, none⟩ = some v2 ∧ w.frozen? ⟨g, 0, none⟩ = false ∧ w.frozen? ⟨g, 1, none⟩ = false ∧ w.frozen? ⟨g, 2, none⟩ = false := by
  refine ⟨?_, ?_, ?_, frozen_of_row w g 0 _ _ h, frozen_of_row w g 1 _ _ h, frozen_of_row w g 2 _ _ h⟩
  · rw [own_cell1 h 0]; rfl
  · rw [own_cell1 h 1]; rfl
  · rw [own_cell1 h 2]; rfl
theorem r3_set (w : World) (g : Nat) (u0 u1 u2 v0 v1 v2 : Value) (h0 : w.cell? ⟨g, 0, none⟩ = some u0) (h1 : w.cell? ⟨g, 1, none⟩ = some u1) (h2 : w.cell? ⟨g, 2, none⟩ = some u2) :
    (((w.setCell ⟨g, 0, none⟩ v0).setCell ⟨g, 1, none⟩ v1).setCell ⟨g, 2, none⟩ v2).cell? ⟨g, 0, none⟩ = some v0 ∧ (((w.setCell ⟨g, 0, none⟩ v0).setCell ⟨g, 1, none⟩ v1).setCell ⟨g, 2, none⟩ v2).cell? ⟨g, 1, none⟩ = some v1 ∧ (((w.setCell ⟨g, 0, none⟩ v0).setCell ⟨g, 1, none⟩ v1).setCell ⟨g, 2, none⟩ v2).cell? ⟨g, 2, none⟩ = some v2 := by
  refine ⟨?_, ?_, ?_⟩
  · rw [World.cell?_setCell_other _ _ _ _ (by simp), World.cell?_setCell_other _ _ _ _ (by simp)]
    exact World.cell?_setCell_same _ _ _ (u := u0) h0
  · rw [World.cell?_setCell_other _ _ _ _ (by simp)]
    refine World.cell?_setCell_same _ _ _ (u := u1) ?_
    rw [World.cell?_setCell_other _ _ _ _ (by simp)]
    exact h1
  · refine World.cell?_setCell_same _ _ _ (u := u2) ?_
    rw [World.cell?_setCell_other _ _ _ _ (by simp), World.cell?_setCell_other _ _ _ _ (by simp)]
    exact h2
theorem load_rnum (w : World) (g : Nat) (v0 v1 v2 : Value) (h0 : w.cell? ⟨g, 0, none⟩ = some v0) (h1 : w.cell? ⟨g, 1, none⟩ = some v1) (h2 : w.cell? ⟨g, 2, none⟩ = some v2) :
    (loadVar 50 ⟨g, 0, none⟩).run Tryz.prog w = .ok (.agg #[v0, v1, v2]) w := by
  simp [loadVar, go_sem, h0, h1, h2]
theorem res_rnum {fn : Func} {p : Tmp} (h : fn.results = #[.cell p 50]) {tmps : Array Value} {w : World} {g : Nat} {v0 v1 v2 : Value} (hp : tmps.getD p undef = .pointer (some ⟨g, 0, none⟩))
    (h0 : w.cell? ⟨g, 0, none⟩ = some v0) (h1 : w.cell? ⟨g, 1, none⟩ = some v1) (h2 : w.cell? ⟨g, 2, none⟩ = some v2) : (results fn tmps).run Tryz.prog w = .ok (.agg #[v0, v1, v2]) w := by
  have hp' : tmps[p]?.getD undef = .pointer (some ⟨g, 0, none⟩) := by simpa using hp
  simp [results, h, hp', asAddr, load_rnum w g v0 v1 v2 h0 h1 h2]
theorem end_rnum {fn : Func} {R : Ending → World → Prop} {a : Act} {w : World} {p : Tmp} {g : Nat} {v0 v1 v2 o0 o1 o2 : Value} (h : fn.results = #[.cell p 50]) (hp : a.tmps.getD p undef = .pointer (some ⟨g, 0, none⟩)) (hd : a.defers = []) (c0 : w.cell? ⟨g, 0, none⟩ = some o0) (c1 : w.cell? ⟨g, 1, none⟩ = some o1) (c2 : w.cell? ⟨g, 2, none⟩ = some o2)
    (hR : R (.returned (.agg #[v0, v1, v2])) (((w.setCell ⟨g, 0, none⟩ v0).setCell ⟨g, 1, none⟩ v1).setCell ⟨g, 2, none⟩ v2)) : bodyPost Tryz.prog fn R .ret a (((w.setCell ⟨g, 0, none⟩ v0).setCell ⟨g, 1, none⟩ v1).setCell ⟨g, 2, none⟩ v2) :=
  bodyPost_ret (res_rnum h hp (r3_set w g o0 o1 o2 v0 v1 v2 c0 c1 c2).1 (r3_set w g o0 o1 o2 v0 v1 v2 c0 c1 c2).2.1 (r3_set w g o0 o1 o2 v0 v1 v2 c0 c1 c2).2.2) hd hR
theorem set3_below {w w' : World} {B g : Nat} {v0 v1 v2 : Value} (h : Below B w w') (hg : B ≤ g) : Below B w (((w'.setCell ⟨g, 0, none⟩ v0).setCell ⟨g, 1, none⟩ v1).setCell ⟨g, 2, none⟩ v2) :=
  ((h.setCell (p := ⟨g, 0, none⟩) hg v0).setCell (p := ⟨g, 1, none⟩) hg v1).setCell (p := ⟨g, 2, none⟩) hg v2
theorem outR_set {w w1 : World} {gx : Nat} {neg : Bool} {A A' : Option Addr} {n c n' c' k l : Nat} {q : Rat} (hn : neg = decide (q.num < 0)) (hg : w.heap.size ≤ gx) (ht : TyAt 50 w1 gx) (h : LimAt w1 w1.heap.size A n c q.num.natAbs) (h' : LimAt w1 w1.heap.size A' n' c' q.den) (hb : Below w.heap.size w w1) (hk : n ≤ k) (hl : n' ≤ l) :
    OutR w q k l (.returned (.agg #[.bool neg, .slice A n c, .slice A' n' c'])) (((w1.setCell ⟨gx, 0, none⟩ (.bool neg)).setCell ⟨gx, 1, none⟩ (.slice A n c)).setCell ⟨gx, 2, none⟩ (.slice A' n' c')) := by
  refine ⟨_, _, _, _, _, _, _, rfl, ⟨hn, ?_, ?_⟩, hk, hl, set3_below hb hg⟩
  · refine NumAt.mono ?_ (show w1.heap.size ≤ _ by simp)
    exact ((h.set_far (p := ⟨gx, 0, none⟩) ht (by decide) _).set_far (p := ⟨gx, 1, none⟩) (ht.set _ _) (by decide) _).set_far (p := ⟨gx, 2, none⟩) ((ht.set _ _).set _ _) (by decide) _
  · refine NumAt.mono ?_ (show w1.heap.size ≤ _ by simp)
    exact ((h'.set_far (p := ⟨gx, 0, none⟩) ht (by decide) _).set_far (p := ⟨gx, 1, none⟩) (ht.set _ _) (by decide) _).set_far (p := ⟨gx, 2, none⟩) ((ht.set _ _).set _ _) (by decide) _
theorem rcell_new (w : World) (T : TypeId) (cs : Array Value) : ∃ W gx, W = w.alloc (.cells cs T) ∧ gx = w.heap.size ∧ Hid (W.heap[gx]? = some (.cells cs T (0, 0))) ∧ Hid (Below w.heap.size w W) ∧ Hid (W.heap.size = w.heap.size + 1) :=
  ⟨_, _, rfl, rfl, heap_alloc_new _ _, (Below.refl _ _).alloc (Nat.le_refl _) _, by show _ = _; simp⟩
set_option maxRecDepth 100000 in
set_option maxHeartbeats 2000000 in
theorem RCOMMON_any (A A' : Option Addr) (n c x n' c' y : Nat) (hn : n ≤ 100000000) (hn' : n' ≤ 100000000) (w : World) (B : Nat) (hB : B ≤ w.heap.size) (hh : Hid (LimAt w B A n c x)) (hh' : Hid (LimAt w B A' n' c' y)) :
    Calls Tryz.prog 57 #[.slice A n c, .slice A' n' c'] w (OutL w (Nat.gcd x y) (max n n')) := by
  obtain ⟨G, hG⟩ : ∃ G, Nat.gcd x y = G := ⟨_, rfl⟩
  have HG := Lib.hid hG
  rw [hG]
  clear hG
  go_enter Tryz.func57, Tryz.ntmps57
  go_wp2_with fail
  go_loopg [0, 1] y (fun k s0 s1 wr => ∃ (A1 : Option Addr) (n1 c1 x : Nat) (A2 : Option Addr) (n2 c2 : Nat), s0 = .slice A1 n1 c1 ∧ s1 = .slice A2 n2 c2 ∧ n1 ≤ max n n' ∧ n2 ≤ max n n' ∧ Hid (Nat.gcd x k = G) ∧ Hid (LimAt wr wr.heap.size A1 n1 c1 x) ∧ Hid (LimAt wr wr.heap.size A2 n2 c2 k) ∧ Hid (Below w.heap.size w wr))
  case atStart => exact ⟨A, n, c, x, A', n', c', rfl, rfl, by omega, by omega, HG, hh.out.mono hB, hh'.out.mono hB, Below.refl _ _⟩
  case round =>
    clear hh hh' HG
    obtain ⟨A, n1, c, x, A', n2, c', rfl, rfl, hn1, hn2, HG, hh, hh', hw⟩ := hrel
    by_cases hy : 0 < gk
    · have hn0 : 0 < n2 := (hh'.out.pos_iff (by omega)).2 hy
      have HLT := Lib.hid (Nat.mod_lt x hy)
      have HGN : Hid (Nat.gcd gk (x % gk) = G) := by show _ = _; rw [Nat.gcd_comm gk, ← Nat.gcd_rec, Nat.gcd_comm]; exact HG.out
      go_wp2_with fail
      refine (RDIVIDE_any A A' n1 c x n2 c' gk (by omega) (by omega) hy _ _ (Nat.le_refl _) hh hh').mono ?_
      rintro e w1 ⟨A3, n3, c3, A4, n4, c4, rfl, h3, h4, k3, k4, hb1⟩
      have H4 := Lib.hid h4
      have HB1 := Lib.hid hb1
      clear h3 h4 hb1
      go_wp2_with fail
      go_roundg (x % gk)
      case rel => exact ⟨A', n2, c', gk, A4, n4, c4, rfl, rfl, hn2, by omega, HGN, hh'.out.to HB1.out (Nat.le_refl _) HB1.out.size, H4, hw.out.trans (HB1.out.mono hw.out.size)⟩
      case measure => exact HLT.out
    · obtain rfl : gk = 0 := by omega
      have hpg : Hid (x = G) := by have := HG.out; rw [Nat.gcd_zero_right] at this; exact this
      have hn0 : n2 = 0 := by
        refine Nat.eq_zero_of_not_pos fun h => ?_
        have := (hh'.out.pos_iff (by omega)).1 h
        omega
      subst hn0
      go_wp2_with fail
      go_ret
      exact ⟨_, _, _, rfl, by rw [← hpg.out]; exact hh.out, hn1, hw.out⟩
def sgnZ (neg : Bool) (x : Nat) : Int := if neg then -(x : Int) else x
theorem sgnZ_abs (neg : Bool) (x : Nat) : (sgnZ neg x).natAbs = x := by unfold sgnZ; split <;> simp
theorem rmk_fields (z : Int) (d : Nat) (hd : 0 < d) : (mkRat z d).num = z / (Nat.gcd z.natAbs d : Nat) ∧ (mkRat z d).den = d / Nat.gcd z.natAbs d := by
  rw [Rat.mkRat_def, dif_neg (by omega), Rat.normalize_eq]
  exact ⟨rfl, rfl⟩
theorem rdiv_gcd (z : Int) (g : Nat) (hg : 0 < g) (h : g ∣ z.natAbs) : (z / (g : Int)).natAbs = z.natAbs / g ∧ decide (z / (g : Int) < 0) = decide (z < 0) := by
  obtain ⟨t, rfl⟩ := Int.ofNat_dvd_left.2 h
  rw [Int.mul_ediv_cancel_left _ (by omega), Int.natAbs_mul, Int.natAbs_natCast, Nat.mul_div_cancel_left _ hg]
  refine ⟨rfl, ?_⟩
  rcases Int.lt_trichotomy t 0 with h1 | h1 | h1
  · have := Int.mul_neg_of_pos_of_neg (show (0 : Int) < g by omega) h1
    rw [decide_eq_true h1, decide_eq_true this]
  · subst h1; simp
  · have := Int.mul_pos (show (0 : Int) < g by omega) h1
    rw [decide_eq_false (by omega), decide_eq_false (by omega)]
theorem sgn_fields (neg : Bool) (x y : Nat) (hx : 0 < x) (hy : 0 < y) : neg = decide ((mkRat (sgnZ neg x) y).num < 0) ∧ (mkRat (sgnZ neg x) y).num.natAbs = x / Nat.gcd x y ∧ (mkRat (sgnZ neg x) y).den = y / Nat.gcd x y := by
  obtain ⟨h1, h2⟩ := rmk_fields (sgnZ neg x) y hy
  rw [sgnZ_abs] at h1 h2
  have h3 := rdiv_gcd (sgnZ neg x) (Nat.gcd x y) (Nat.gcd_pos_of_pos_right _ hy) (by rw [sgnZ_abs]; exact Nat.gcd_dvd_left _ _)
  rw [← h1, sgnZ_abs] at h3
  refine ⟨?_, h3.1, h2⟩
  rw [h3.2]
  cases neg with
  | true => exact (decide_eq_true (by unfold sgnZ; simp; omega)).symm
  | false => exact (decide_eq_false (by unfold sgnZ; simp)).symm
set_option maxRecDepth 100000 in
set_option maxHeartbeats 2000000 in
theorem RLOWEST_any (neg : Bool) (A A' : Option Addr) (n c x n' c' y : Nat) (hn : n ≤ 100000000) (hn' : n' ≤ 100000000) (hy : 0 < y) (w : World) (B : Nat) (hB : B ≤ w.heap.size) (hh : Hid (LimAt w B A n c x)) (hh' : Hid (LimAt w B A' n' c' y)) :
    Calls Tryz.prog 38 #[.bool neg, .slice A n c, .slice A' n' c'] w (OutR w (mkRat (sgnZ neg x) y) n n') := by
  obtain ⟨W, gx, hW, hgx, HHW, HBW, HSW⟩ := rcell_new w 50 #[.bool false, .slice none 0 0, .slice none 0 0]
  have HGX := Lib.hid hgx
  have hgw := blk_lt HHW.out
  have hn0' : 0 < n' := (hh'.out.pos_iff (by omega)).2 hy
  by_cases hx : 0 < x
  · have hn0 : 0 < n := (hh.out.pos_iff (by omega)).2 hx
    have HF := Lib.hid (sgn_fields neg x y hx hy)
    have HGP := Lib.hid (Nat.gcd_pos_of_pos_right x hy)
    have HT := Lib.hid (hh.out.to HBW.out hB (by have := HBW.out.size; omega))
    have HD := Lib.hid (hh'.out.to HBW.out hB (by have := HBW.out.size; omega))
    obtain ⟨G, hG⟩ : ∃ G, Nat.gcd x y = G := ⟨_, rfl⟩
    have HG := Lib.hid hG
    rw [hG] at HF HGP
    clear hG
    go_enter Tryz.func38, Tryz.ntmps38
    go_upto_region 1 with (fail)
    rw [← hW, ← hgx]
    clear hW hgx hh hh'
    go_wp2_with fail
    refine (RCOMMON_any A A' n c x n' c' y (by omega) (by omega) _ _ (Nat.le_refl _) HT HD).mono ?_
    rintro e w1 ⟨A1, n1, c1, rfl, h1, k1, hb1⟩
    rw [HG.out] at h1
    have H1 := Lib.hid h1
    have HB1 := Lib.hid hb1
    clear h1 hb1
    obtain ⟨kc, hkc⟩ : ∃ kc, cmpN G 1 = kc := ⟨_, rfl⟩
    have HKC := Lib.hid hkc
    clear hkc
    go_upto_region 4 with (fail)
    have hb9 := blk1 w1 1
    go_wp2_with fail
    obtain ⟨W2, hW2⟩ : ∃ W2, W2 = w1.alloc (.cells #[.int .i64 1] 3) := ⟨_, rfl⟩
    have HB2 : Hid (Below w1.heap.size w1 W2) := by show Below _ _ _; rw [hW2]; exact (Below.refl _ _).alloc (Nat.le_refl _) _
    have H9 : Hid (LimAt W2 W2.heap.size (some ⟨w1.heap.size, 0, none⟩) 1 1 1) := by
      have hb8 : BlkN .i64 3 W2 w1.heap.size [1] := by rw [hW2]; exact hb9
      exact ⟨by omega, by simp [maxLen], [1], ⟨DigN.cons (by omega) (DigN.nil _), by simp⟩, by simp [valB], hb8.row hb8.lt⟩
    rw [← hW2]
    clear hW2 hb9
    refine (RCMP_any A1 _ n1 c1 G 1 1 1 _ W2.heap.size (Lib.hid (H1.out.to HB2.out (Nat.le_refl _) HB2.out.size)) H9).mono ?_
    rintro e w3 ⟨rfl, hb3⟩
    rw [HKC.out]
    have HB3 := Lib.hid (HB2.out.trans (hb3.mono HB2.out.size))
    clear hb3 H9 HB2
    have HBA := Lib.hid (HB1.out.trans (HB3.out.mono HB1.out.size))
    by_cases hg1 : G = 1
    · have hk9 : kc = 0 := by rw [← HKC.out]; exact cmpN_eq hg1
      subst hk9
      subst hg1
      rw [Nat.div_one, Nat.div_one] at HF
      clear HGP
      have hhx := (HBA.out.block gx hgw).trans HHW.out
      obtain ⟨hr0, hr1, hr2, hf0, hf1, hf2⟩ := r3_cells hhx
      have HHX := Lib.hid hhx
      clear hhx
      go_wp2_with fail
      refine end_rnum rfl rfl rfl hr0 hr1 hr2 (outR_set HF.out.1 (by have := HGX.out; omega) ⟨_, _, HHX.out⟩ ?_ ?_ (HBW.out.trans (HBA.out.mono HBW.out.size)) (by omega) (by omega))
      · rw [HF.out.2.1]; exact HT.out.to HBA.out (Nat.le_refl _) HBA.out.size
      · rw [HF.out.2.2]; exact HD.out.to HBA.out (Nat.le_refl _) HBA.out.size
    · have hk9 : (kc == 0) = false := by
        rw [← HKC.out]; unfold cmpN
        rw [if_neg (by have := HGP.out; omega), if_neg hg1]; rfl
      clear hg1
      go_upto_region 6 with (fail)
      go_wp2_with fail
      refine (RDIVIDE_any A A1 n c x n1 c1 G (by omega) (by omega) HGP.out _ w3.heap.size (Nat.le_refl _) (Lib.hid (HT.out.to HBA.out (Nat.le_refl _) HBA.out.size)) (Lib.hid (H1.out.to HB3.out (Nat.le_refl _) HB3.out.size))).mono ?_
      rintro e w4 ⟨A4, n4, c4, A5, n5, c5, rfl, h4, h5, k4, k5, hb4⟩
      have H4 := Lib.hid h4
      have HB4 := Lib.hid (HBA.out.trans (hb4.mono HBA.out.size))
      have H1' := Lib.hid (H1.out.to (HB3.out.trans (hb4.mono HB3.out.size)) (Nat.le_refl _) (Nat.le_trans HB3.out.size hb4.size))
      clear h4 h5 hb4
      go_wp2_with fail
      refine (RDIVIDE_any A' A1 n' c' y n1 c1 G (by omega) (by omega) HGP.out _ w4.heap.size (Nat.le_refl _) (Lib.hid (HD.out.to HB4.out (Nat.le_refl _) HB4.out.size)) H1').mono ?_
      rintro e w6 ⟨A6, n6, c6, A7, n7, c7, rfl, h6, h7, k6, k7, hb6⟩
      have H6 := Lib.hid h6
      have HB6 := Lib.hid (HB4.out.trans (hb6.mono HB4.out.size))
      have H4' := Lib.hid (H4.out.to hb6 (Nat.le_refl _) hb6.size)
      clear h6 h7 hb6
      have hhx := (HB6.out.block gx hgw).trans HHW.out
      obtain ⟨hr0, hr1, hr2, hf0, hf1, hf2⟩ := r3_cells hhx
      have HHX := Lib.hid hhx
      clear hhx
      go_wp2_with fail
      refine end_rnum rfl rfl rfl hr0 hr1 hr2 (outR_set HF.out.1 (by have := HGX.out; omega) ⟨_, _, HHX.out⟩ ?_ ?_ (HBW.out.trans (HB6.out.mono HBW.out.size)) (by omega) (by omega))
      · rw [HF.out.2.1]; exact H4'.out
      · rw [HF.out.2.2]; exact H6.out
  · obtain rfl : x = 0 := by omega
    obtain rfl : n = 0 := by
      refine Nat.eq_zero_of_not_pos fun h => ?_
      have := (hh.out.pos_iff (by omega)).1 h
      omega
    have hz : mkRat (sgnZ neg 0) y = 0 := by
      have : sgnZ neg 0 = 0 := by unfold sgnZ; split <;> rfl
      rw [this, Rat.zero_mkRat]
    rw [hz]
    clear hz hx
    go_enter Tryz.func38, Tryz.ntmps38
    go_upto_region 1 with (fail)
    rw [← hW, ← hgx]
    clear hW hgx hh hh'
    go_upto_region 2 with (fail)
    obtain ⟨hr0, hr1, hr2, hf0, hf1, hf2⟩ := r3_cells HHW.out
    go_wp2_with fail
    obtain ⟨e0, e1, e2⟩ := r3_set W gx _ _ _ (.bool false) (.slice none 0 0) (.slice (some ⟨W.heap.size, 0, none⟩) 1 1) hr0 hr1 hr2
    have hbx : Below w.heap.size w (((W.setCell ⟨gx, 0, none⟩ (.bool false)).setCell ⟨gx, 1, none⟩ (.slice none 0 0)).setCell ⟨gx, 2, none⟩ (.slice (some ⟨W.heap.size, 0, none⟩) 1 1)) := set3_below HBW.out (by have := HGX.out; omega)
    have hs : (((W.setCell ⟨gx, 0, none⟩ (.bool false)).setCell ⟨gx, 1, none⟩ (.slice none 0 0)).setCell ⟨gx, 2, none⟩ (.slice (some ⟨W.heap.size, 0, none⟩) 1 1)).heap.size = W.heap.size := by simp
    generalize ((W.setCell ⟨gx, 0, none⟩ (.bool false)).setCell ⟨gx, 1, none⟩ (.slice none 0 0)).setCell ⟨gx, 2, none⟩ (.slice (some ⟨W.heap.size, 0, none⟩) 1 1) = X at e0 e1 e2 hbx hs ⊢
    rw [← hs] at e2 hgw ⊢
    have hb9 := blk1 X 1
    have ha := (Below.refl X.heap.size X).alloc (Nat.le_refl _) (.cells #[.int .i64 1] 3)
    refine bodyPost_ret (res_rnum rfl rfl ((ha.cell (p := ⟨gx, 0, none⟩) hgw).trans e0) ((ha.cell (p := ⟨gx, 1, none⟩) hgw).trans e1) ((ha.cell (p := ⟨gx, 2, none⟩) hgw).trans e2)) rfl ?_
    refine ⟨_, _, _, _, _, _, _, rfl, ⟨rfl, NumAt.nil _ _ _ _ _, ?_⟩, Nat.le_refl _, hn0', hbx.alloc hbx.size _⟩
    exact ⟨by omega, by simp [maxLen], [1], ⟨DigN.cons (by omega) (DigN.nil _), by simp⟩, by simp [valB], hb9.row hb9.lt⟩
end Go.Proofs.YtocbogdjlapogaaGreatDoor
