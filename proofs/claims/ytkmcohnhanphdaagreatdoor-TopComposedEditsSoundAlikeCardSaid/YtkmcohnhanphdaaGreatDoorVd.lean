/- edit.checkMedia. -/
import Derived.Test.YtkmcohnhanphdaaGreatDoorVa
import Derived.Test.YtkmcohnhanphdaaGreatDoorVb
import Derived.Maps.OwnSet
import Derived.Maps.OwnOps
import Derived.Maps.Views
import Derived.Carry
set_option linter.unusedSimpArgs false
set_option linter.unusedVariables false
namespace Go.Dw
open Go.RowKit Go.Maps Go.ChangeMaps Go.MapKept
def anyElem (v : Value) : Option (DataW Value × List MemPlace) := some (.held v, [])
theorem anyElem_inv {v v0 : Value} {D : DataW Value} {ps : List MemPlace} (hat : D = .held v0) (h : anyElem v = some (D, ps)) : v = v0 := by
  rw [hat] at h
  injection h with h
  injection h with h _
  injection h
theorem wpList_lookup_any_ok {P : Program} (w : World) {ops : Array Oper} {rest : List Oper} {o : Oper} {a : Act} {Q : Exit → Act → World → Prop} (hg : o.guard = none) (m x : Operand) (t : TypeId) (hop : o.op = Op.lookup t m x true)
    (k e : TypeId) (K : Keyed P k) (ht : P.underlying t = some (.map k e)) {z : Value} (hz : (zeroValue e).run P w = .ok z w) (b n : Nat) (D : DataW Value)
    (hm : a.eval m = .map (some b)) (hown : w.ownsMap P k anyElem b n D) (key : Value) (kl : Lit) (hx : a.eval x = key) (hkey : keyOf P k key = some kl) (v0 : Value) (hat : D.atKey kl (.held z) = .held v0)
    (hK : wpList P ops Q rest (a.put o.dst (.tuple #[v0, .bool (Maps.has D kl)])) w) :
    wpList P ops Q (o :: rest) a w :=
  wpList_lookup_own_ok w hg m x t hop k e K ht anyElem hz (.held z) [] rfl b n D hm hown key kl hx hkey (fun v ps hv => by
    obtain rfl := anyElem_inv hat hv
    exact hK)
theorem wpList_lookup_any {P : Program} (w : World) {ops : Array Oper} {rest : List Oper} {o : Oper} {a : Act} {Q : Exit → Act → World → Prop} (hg : o.guard = none) (m x : Operand) (t : TypeId) (hop : o.op = Op.lookup t m x false)
    (k e : TypeId) (K : Keyed P k) (ht : P.underlying t = some (.map k e)) {z : Value} (hz : (zeroValue e).run P w = .ok z w) (b n : Nat) (D : DataW Value)
    (hm : a.eval m = .map (some b)) (hown : w.ownsMap P k anyElem b n D) (key : Value) (kl : Lit) (hx : a.eval x = key) (hkey : keyOf P k key = some kl) (v0 : Value) (hat : D.atKey kl (.held z) = .held v0)
    (hK : wpList P ops Q rest (a.put o.dst v0) w) :
    wpList P ops Q (o :: rest) a w := by
  refine wpList_plain hg fun K' hK' => ?_
  obtain ⟨v, ps, hrun, hv⟩ := hown.lookup K ht hz (zd := .held z) (zp := []) rfl hkey
  obtain rfl := anyElem_inv hat hv
  unfold Oper.wp
  simp [execOp, hop, hm, hx, hrun, Result.andThen]
  exact hK' _ _ hK
theorem atKey_none {D : DataW Value} {k : Lit} {z : DataW Value} (hD : IsMap D) (h : Maps.has D k = false) : D.atKey k z = z := by
  obtain ⟨es, rfl⟩ := hD
  have h1 : es.find? (fun p => p.1.sameKey k) = none := by
    rw [List.find?_eq_none]
    intro p hp hk
    have : Maps.has (DataW.map es) k = true := List.any_eq_true.2 ⟨p, hp, hk⟩
    rw [h] at this
    cases this
  simp only [DataW.atKey, h1]
end Go.Dw
namespace Go.Proofs.YtkmcohnhanphdaaGreatDoor
open Go.RowKit Go.Dw Go.Maps Go.ChangeMaps Go.MapKept
def sndZ : Value := .agg #[.int .i64 0, .slice none 0 0]
def strK (s : ByteArray) : Lit := .string s.data.toList
theorem strK_inj {s t : ByteArray} (h : strK s = strK t) : s = t := by
  injection h with h
  cases s; cases t
  congr 1
  exact Array.ext' h
def MediaAt (w : World) (B : Nat) (A : Option Addr) (n : Nat) (l : List Md) : Prop :=
  l.length = n ∧ ∀ k, k < n → ∃ b o A' n' c', A = some ⟨b, o, none⟩ ∧ b < B ∧ (w.cell? ⟨b, o + k * 3, none⟩ = some (.string (mdOf l k).name) ∧ w.cell? ⟨b, o + k * 3 + 1, none⟩ = some (.int .i64 (mdOf l k).rate) ∧ w.cell? ⟨b, o + k * 3 + 2, none⟩ = some (.slice A' n' c')) ∧ n' ≤ c' ∧ c' ≤ maxLen ∧ RowsAt w B A' n' (mdOf l k).xss
theorem MediaAt.below {w w' : World} {B B' : Nat} {A : Option Addr} {n : Nat} {l : List Md} (h : MediaAt w B A n l) (hb : Below B' w w') (hB : B ≤ B') : MediaAt w' B A n l :=
  ⟨h.1, fun k hk => by
    obtain ⟨b, o, A', n', c', e, h1, ⟨k0, k1, k2⟩, h3, h4, h5⟩ := h.2 k hk
    have hbB : b < B' := by omega
    exact ⟨b, o, A', n', c', e, h1, ⟨(hb.cell (p := ⟨b, o + k * 3, none⟩) hbB).trans k0, (hb.cell (p := ⟨b, o + k * 3 + 1, none⟩) hbB).trans k1, (hb.cell (p := ⟨b, o + k * 3 + 2, none⟩) hbB).trans k2⟩, h3, h4, h5.below hb hB⟩⟩
structure MedD (B : Nat) (md : List Md) (j : Nat) (w : World) (D : DataW Value) : Prop where
  map : IsMap D
  has_ : ∀ s : ByteArray, Maps.has D (strK s) = true ↔ ∃ k, k < j ∧ (mdOf md k).name = s
  val : ∀ k, k < j → ∃ A' n' c', D.atKey (strK (mdOf md k).name) (.held sndZ) = .held (.agg #[.int .i64 (mdOf md k).rate, .slice A' n' c']) ∧ n' ≤ c' ∧ c' ≤ maxLen ∧ RowsAt w B A' n' (mdOf md k).xss
theorem ownsMap_keep9 {H : Type} {w w' : World} {P : Program} {k : TypeId} {R : Value → Option (DataW H × List MemPlace)} {b n : Nat} {D : DataW H} (h : w.ownsMap P k R b n D) (hb : w'.heap[b]? = w.heap[b]?) : w'.ownsMap P k R b n D := by
  obtain ⟨es, clock, h0, r⟩ := h
  exact ⟨es, clock, hb.trans h0, r⟩
def MedJ (bk B : Nat) (md : List Md) (j : Nat) (w : World) : Prop := ∃ m D, m ≤ j ∧ w.ownsMap Tryz.prog 9 anyElem bk m D ∧ MedD B md j w D
theorem MedD.below {B B' j : Nat} {md : List Md} {w w' : World} {D : DataW Value} (h : MedD B md j w D) (hb : Below B' w w') (hB : B ≤ B') : MedD B md j w' D :=
  ⟨h.map, h.has_, fun k hk => by
    obtain ⟨A', n', c', h1, h2, h3, h4⟩ := h.val k hk
    exact ⟨A', n', c', h1, h2, h3, h4.below hb hB⟩⟩
theorem MedJ.below {bk B j N : Nat} {md : List Md} {w w' : World} (h : MedJ bk B md j w) (hb : Below N w w') (hN : bk < N) (hB : B ≤ N) : MedJ bk B md j w' := by
  obtain ⟨m, D, h0, h1, h2⟩ := h
  exact ⟨m, D, h0, ownsMap_keep9 h1 (hb.block bk hN), h2.below hb hB⟩
theorem MedD.put {B j : Nat} {md : List Md} {w : World} {D : DataW Value} {A' : Option Addr} {n' c' : Nat} (h : MedD B md j w D) (hf : Maps.has D (strK (mdOf md j).name) = false) (hk : WideAt.IsKeyLit (strK (mdOf md j).name)) (hn : n' ≤ c') (hc : c' ≤ maxLen) (hr : RowsAt w B A' n' (mdOf md j).xss) :
    MedD B md (j + 1) w (D.put (strK (mdOf md j).name) (.held (.agg #[.int .i64 (mdOf md j).rate, .slice A' n' c']))) := by
  have hfr : ∀ k, k < j → (mdOf md k).name ≠ (mdOf md j).name := fun k hk e => by
    have := (h.has_ (mdOf md j).name).2 ⟨k, hk, e⟩
    rw [hf] at this; cases this
  refine ⟨?_, fun s => ?_, fun k hkj => ?_⟩
  · obtain ⟨es, rfl⟩ := h.map; exact ⟨_, rfl⟩
  · by_cases hs : s = (mdOf md j).name
    · subst hs
      rw [has_put_same h.map hk]
      exact ⟨fun _ => ⟨j, by omega, rfl⟩, fun _ => rfl⟩
    · rw [has_put_other (fun e => hs (strK_inj e)), h.has_ s]
      constructor
      · rintro ⟨k, h1, h2⟩; exact ⟨k, by omega, h2⟩
      · rintro ⟨k, h1, h2⟩
        rcases Nat.lt_or_ge k j with h3 | h3
        · exact ⟨k, h3, h2⟩
        · obtain rfl : k = j := by omega
          exact absurd h2.symm hs
  · rcases Nat.lt_or_ge k j with h3 | h3
    · obtain ⟨A9, n9, c9, g1, g2⟩ := h.val k h3
      refine ⟨A9, n9, c9, ?_, g2⟩
      rw [atKey_put_other (fun e => hfr k h3 (strK_inj e))]
      exact g1
    · obtain rfl : k = j := by omega
      exact ⟨A', n', c', atKey_put_same h.map hk _ _, hn, hc, hr⟩
set_option maxRecDepth 100000 in
set_option maxHeartbeats 2000000 in
theorem CHECKSOUND_any (r rate : Int) (A : Option Addr) (n c : Nat) (xss : List (List Int)) (w : World) (B : Nat) (hB : B ≤ w.heap.size) (hh : Hid (RowsAt w B A n xss)) :
    Calls Tryz.prog 63 #[.agg #[.int .i64 r, .slice A n c], .int .i64 rate] w fun e w' => (∃ f : Int, e = .returned (.int .i64 f) ∧ (f = 0 → r = rate ∧ chkS r xss = 0)) ∧ Below w.heap.size w w' := by
  obtain ⟨W, g, hW, hg, HG, HBW, HSW⟩ := cell_new w 33 #[.int .i64 r, .slice A n c]
  obtain ⟨x0, x1, _, _⟩ := two_cells HG.out
  have hgW := blk_lt HG.out
  go_enter Tryz.func63, Tryz.ntmps63
  go_upto_region 1 with (fail)
  rw [← hW, ← hg]
  clear hW hg
  go_wp2_with fail
  refine (CHECK_any r A n c xss W B (Nat.le_trans hB HBW.out.size) (hh.out.below HBW.out hB)).mono ?_
  rintro e w1 ⟨rfl, hb1⟩
  have x0 := (hb1.cell (p := ⟨g, 0, none⟩) hgW).trans x0
  have HB1 := Lib.hid (HBW.out.trans (hb1.mono HBW.out.size))
  obtain ⟨f, hf⟩ : ∃ f, chkS r xss = f := ⟨_, rfl⟩
  rw [hf]
  have HF := Lib.hid hf
  clear hf hb1
  by_cases h0 : f = 0
  · subst h0
    by_cases hr : r = rate
    · subst hr
      have d1 : (r != r) = false := by simp
      go_wp2_with fail
      go_ret
      refine ⟨⟨0, rfl, fun _ => ?_⟩, HB1.out⟩
      first | exact ⟨rfl, HF.out⟩ | exact HF.out
    · have d1 : (r != rate) = true := by simpa using hr
      clear hr
      go_wp2_with fail
      go_ret
      exact ⟨⟨_, rfl, fun h => by cases h⟩, HB1.out⟩
  · have hq : (f != 0) = true := by simpa using h0
    go_wp2_with fail
    go_ret
    exact ⟨⟨_, rfl, fun h => absurd h h0⟩, HB1.out⟩
end Go.Proofs.YtkmcohnhanphdaaGreatDoor
/- edit.checkMedia, walked. -/
namespace Go.Proofs.YtkmcohnhanphdaaGreatDoor
open Go.RowKit Go.Dw Go.Maps Go.ChangeMaps Go.MapKept
attribute [local go_sem ↓] Go.wp_at_zero Go.wp_at_succ
theorem EISNAME_any (s : ByteArray) (hs : s.size ≤ 9223372036854775807) (w : World) : Calls Tryz.prog 18 #[.string s] w fun e w' => e = .returned (.bool (nameN s.data.toList)) ∧ Below w.heap.size w w' := by
  go_enter Tryz.func18, Tryz.ntmps18
  go_wp2_with fail
  refine (SISNAME_any s hs w).mono ?_
  rintro e w1 ⟨rfl, hb⟩
  obtain ⟨b, hbb⟩ : ∃ b, nameN s.data.toList = b := ⟨_, rfl⟩
  rw [hbb]
  have HBB := Lib.hid hbb
  clear hbb
  go_wp2_with fail
  go_ret
  rw [HBB.out]
  exact ⟨rfl, hb⟩
theorem map_new (w : World) : ∃ W gk, W = w.alloc (.map #[] 0) ∧ gk = w.heap.size ∧ Hid (W.heap[gk]? = some (.map #[] 0)) ∧ Hid (Below w.heap.size w W) ∧ Hid (W.heap.size = w.heap.size + 1) :=
  ⟨_, _, rfl, rfl, heap_alloc_new _ _, (Below.refl _ _).alloc (Nat.le_refl _) _, by show _ = _; simp⟩
theorem zeroSnd (w : World) : (zeroValue 33).run Tryz.prog w = .ok (.agg #[.int .i64 0, .slice none 0 0]) w := by kernel_rfl
theorem keyS {s : ByteArray} (hs : s.size ≤ maxLen) : keyOf Tryz.prog 9 (.string s) = some (strK s) := Go.WideMaps.keyOf_string_mk Tryz.underlying9 hs
theorem below_self2 {N : Nat} {w : World} (h : N ≤ w.heap.size) : Below N w w := (Below.refl _ _).mono h
set_option maxRecDepth 100000 in
set_option maxHeartbeats 8000000 in
theorem CHECKMEDIA_any (rate tracks : Int) (A A1 : Option Addr) (n n1 cap cap1 : Nat) (cs : List Cp) (md : List Md) (hzc : Hid (∀ c ∈ cs, c.media.size ≤ maxLen ∧ 0 ≤ c.chan)) (hzm : Hid (∀ m ∈ md, m.name.size ≤ maxLen)) (hn : n ≤ 1000000)
    (w : World) (B : Nat) (hB : B ≤ w.heap.size) (hh : Hid (ClipsAt w B A n cs)) (hm : Hid (MediaAt w B A1 n1 md)) :
    Calls Tryz.prog 25 #[.agg #[.int .i64 rate, .int .i64 tracks, .slice A n cap], .slice A1 n1 cap1] w fun e w' => Below w.heap.size w w' ∧ ((∃ f : Int, f ≠ 0 ∧ e = .returned (.tuple #[.map none, .int .i64 f])) ∨
      (∃ bk, e = .returned (.tuple #[.map (some bk), .int .i64 0]) ∧ MediaOk rate md cs ∧ w.heap.size ≤ bk ∧ MedJ bk B md md.length w')) := by
  have hl := Lib.hid hh.out.1
  have hl1 := Lib.hid hm.out.1
  have law : Keyed Tryz.prog 9 := string_keyed Tryz.underlying9
  have hmm := @run_makeMap Tryz.prog
  obtain ⟨W, g, hW, hg, HG, HBW, HSW⟩ := cell_new w 24 #[.int .i64 rate, .int .i64 tracks, .slice A n cap]
  obtain ⟨p0, p1, p2, _, _, _⟩ := three_cells HG.out
  have P0 := Lib.hid p0
  have P2 := Lib.hid p2
  have hgW := blk_lt HG.out
  clear p0 p1 p2
  go_enter Tryz.func25, Tryz.ntmps25
  go_upto_region 1 with (fail)
  rw [← hW, ← hg]
  clear hW hg
  by_cases h100 : 100 < n1
  · have d1 : decide ((100 : Int) < (n1 : Int)) = true := by simp; omega
    have HBR := HBW
    clear h100
    go_wp2_with fail
    refine bodyPost_ret (results_tmp2 rfl _ _ _) rfl ?_
    refine ⟨HBR.out, .inl ⟨_, ?_, rfl⟩⟩
    decide
  have d1 : decide ((100 : Int) < (n1 : Int)) = false := by simp; omega
  have hn100 : n1 ≤ 100 := by omega
  clear h100
  go_upto_region 4 with (fail)
  obtain ⟨W1, gk, hW1, hgk, HK, HB1, HS1⟩ := map_new W
  rw [← hW1, ← hgk]
  have HGK := Lib.hid hgk
  clear hW1 hgk d1 hmm
  go_wp2_with fail
  have HBW1 := Lib.hid (HBW.out.trans (HB1.out.mono HBW.out.size))
  have hBk : B ≤ gk := by have := HGK.out; have := HSW.out; omega
  have hggk : g < gk := by have := HGK.out; omega
  have hwk : w.heap.size ≤ gk := by have := HGK.out; have := HSW.out; omega
  have hks : gk < W1.heap.size := by have := HGK.out; have := HS1.out; omega
  have P0 := Lib.hid ((HB1.out.cell (p := ⟨g, 0, none⟩) hgW).trans P0.out)
  have P2 := Lib.hid ((HB1.out.cell (p := ⟨g, 2, none⟩) hgW).trans P2.out)
  go_loopw [22] (fun i wr => ∃ j : Nat, j ≤ n1 ∧ i = .int .i64 j ∧ Hid (MedJ gk B md j wr) ∧ Hid (Below gk W1 wr) ∧ Hid (∀ a b, a < b → b < j → (mdOf md a).name ≠ (mdOf md b).name) ∧ Hid (∀ k, k < j → (mdOf md k).rate = rate ∧ chkS rate (mdOf md k).xss = 0)) (fun i _ => n1 - (intOf i).toNat)
  case atStart =>
    refine ⟨0, Nat.zero_le _, rfl, ⟨0, .map [], Nat.le_refl _, ⟨#[], 0, HK.out, ⟨by simp, stamped_empty 0, by simp⟩, Nat.le_refl _, rfl⟩, ⟨_, rfl⟩, fun s => ?_, fun k hk => by omega⟩, Below.refl _ _, fun a b _ hb => by omega, fun k hk => by omega⟩
    constructor
    · intro h; simp [Maps.has] at h
    · rintro ⟨k, hk, _⟩; omega
  case round =>
    obtain ⟨j, hj, rfl, HM, HB, HAP, HRI⟩ := hrel
    have hsz := HB.out.size
    have HBX : Hid (Below w.heap.size w wr) := HBW1.out.trans (HB.out.mono hwk)
    by_cases hlt : j < n1
    · have hk0 : (0 : Int) ≤ (j : Int) := by omega
      have hkn : (j : Int) < (n1 : Int) := by omega
      obtain ⟨b, o, A', n', c', e, hb, ⟨k0, k1, k2⟩, hn', hc', hr⟩ := (hm.out.below HBX.out hB).2 j hlt
      subst e
      have HZ := hzm.out _ (md_mem (by rw [hl1.out]; exact hlt))
      have HRI0 := Lib.hid (fun (hq : (mdOf md j).rate = rate ∧ chkS (mdOf md j).rate (mdOf md j).xss = 0) => (show ∀ k, k < j + 1 → (mdOf md k).rate = rate ∧ chkS rate (mdOf md k).xss = 0 from fun k hk => by
        rcases Nat.lt_or_ge k j with h3 | h3
        · exact HRI.out k h3
        · obtain rfl : k = j := by omega
          exact ⟨hq.1, by rw [← hq.1]; exact hq.2⟩))
      obtain ⟨m, hmm⟩ : ∃ m, mdOf md j = m := ⟨_, rfl⟩
      have HMJ := Lib.hid hmm
      rw [hmm] at k0 k1 HZ hr
      rw [hmm] at HRI0
      have HR := Lib.hid hr
      clear hmm hr
      go_upto_region 7 with (fail)
      obtain ⟨X, g8, hX, hg8, HX, HBX8, HSX⟩ := cell_new wr 38 #[.string m.name, .int .i64 m.rate, .slice A' n' c']
      rw [← hX, ← hg8]
      clear hX k0 k1 k2
      obtain ⟨x0, x1, x2, _, _, _⟩ := three_cells HX.out
      have hg8X := blk_lt HX.out
      have HG8 := Lib.hid hg8
      clear hg8
      have hz1 : m.name.size ≤ 9223372036854775807 := by unfold maxLen at HZ; omega
      go_wp2_with fail
      refine (EISNAME_any m.name hz1 X).mono ?_
      rintro e w1 ⟨rfl, hb1⟩
      have x0 := (hb1.cell (p := ⟨g8, 0, none⟩) hg8X).trans x0
      have x1 := (hb1.cell (p := ⟨g8, 1, none⟩) hg8X).trans x1
      have x2 := (hb1.cell (p := ⟨g8, 2, none⟩) hg8X).trans x2
      have hb01 : Below wr.heap.size wr w1 := HBX8.out.trans (hb1.mono HBX8.out.size)
      have HBR := Lib.hid (HBX.out.trans (hb01.mono HBX.out.size))
      have HBK := Lib.hid (HB.out.trans (hb01.mono (by omega)))
      have HM1 := Lib.hid (HM.out.below hb01 (by omega) (by omega))
      have hg8w : g8 < w1.heap.size := Nat.lt_of_lt_of_le hg8X hb1.size
      have hwr1 := hb01.size
      have HR1 := Lib.hid (HR.out.below hb01 (by omega))
      have hg8k : gk < g8 := by have := HG8.out; omega
      clear hb01 hb1 HX HBX8 HSX hz1
      obtain ⟨nm, hnm⟩ : ∃ nm, nameN m.name.data.toList = nm := ⟨_, rfl⟩
      rw [hnm]
      clear hnm
      cases nm with
      | false =>
        go_wp2_with fail
        refine bodyPost_ret (results_tmp2 rfl _ _ _) rfl ?_
        refine ⟨HBR.out, .inl ⟨_, ?_, rfl⟩⟩
        decide
      | true =>
      obtain ⟨mm, D, hmj, hown, hD⟩ := HM1.out
      have HOWN := Lib.hid hown
      have HD := Lib.hid hD
      have hkey := Lib.hid (keyS HZ)
      clear hown hD HM1 HM
      obtain ⟨hs, hhs⟩ : ∃ hs, Maps.has D (strK m.name) = hs := ⟨_, rfl⟩
      have HHS := Lib.hid hhs
      clear hhs
      cases hs with
      | true =>
        obtain ⟨k, hk, hke⟩ := (HD.out.has_ m.name).1 HHS.out
        obtain ⟨A9, n9, c9, hat, _⟩ := HD.out.val k hk
        rw [hke] at hat
        have HAT := Lib.hid hat
        clear hat hke hk
        go_upto_region 10 with (at_lookup; refine wpList_lookup_any_ok _ rfl _ _ 71 rfl 9 33 law Tryz.underlying71 (zeroSnd _) gk mm D rfl HOWN.out _ _ rfl hkey.out _ HAT.out ?_; rw [HHS.out])
        have HBR := Lib.hid (HBR.out.trans ((Below.refl w1.heap.size w1).alloc (Nat.le_refl _) (.cells #[.int .i64 (mdOf md k).rate, .slice A9 n9 c9] 33) |>.mono HBR.out.size))
        go_wp2_with fail
        refine bodyPost_ret (results_tmp2 rfl _ _ _) rfl ?_
        refine ⟨HBR.out, .inl ⟨_, ?_, rfl⟩⟩
        decide
      | false =>
        have HAT := Lib.hid (atKey_none (z := .held sndZ) HD.out.map HHS.out)
        go_upto_region 10 with (at_lookup; refine wpList_lookup_any_ok _ rfl _ _ 71 rfl 9 33 law Tryz.underlying71 (zeroSnd _) gk mm D rfl HOWN.out _ _ rfl hkey.out _ HAT.out ?_; rw [HHS.out]; unfold sndZ)
        obtain ⟨Y, g9, hY, hg9, HY, HBY, HSY⟩ := cell_new w1 33 #[.int .i64 0, .slice none 0 0]
        rw [← hY, ← hg9]
        clear hY hg9
        have x0 := (HBY.out.cell (p := ⟨g8, 0, none⟩) hg8w).trans x0
        have x1 := (HBY.out.cell (p := ⟨g8, 1, none⟩) hg8w).trans x1
        have x2 := (HBY.out.cell (p := ⟨g8, 2, none⟩) hg8w).trans x2
        have hszY := HBY.out.size
        have HBR := Lib.hid (HBR.out.trans (HBY.out.mono HBR.out.size))
        have HRY : Hid (RowsAt Y B A' n' m.xss) := HR1.out.below HBY.out (by omega)
        have p0 := (HBY.out.cell (p := ⟨g, 0, none⟩) (by dsimp only; omega)).trans ((HBK.out.cell (p := ⟨g, 0, none⟩) hggk).trans P0.out)
        have HOY := Lib.hid (ownsMap_keep9 HOWN.out (HBY.out.block gk HOWN.out.lt))
        have HDY : Hid (MedD B md j Y D) := HD.out.below HBY.out (by omega)
        have HBKY := Lib.hid (HBK.out.trans (HBY.out.mono (by omega)))
        have hg8Y := Nat.lt_of_lt_of_le hg8w hszY
        have hBY : B ≤ Y.heap.size := by omega
        clear HBY HSY HOWN HD HR1 HR HY HAT
        go_wp2_with fail
        refine (CHECKSOUND_any m.rate rate A' n' c' m.xss Y B hBY HRY).mono ?_
        rintro e w3 ⟨⟨f, rfl, hf⟩, hb3⟩
        have HF := Lib.hid hf
        have HBR := Lib.hid (HBR.out.trans (hb3.mono HBR.out.size))
        clear hf p0
        by_cases hf0 : f = 0
        case neg =>
          have hq : (f != 0) = true := by simpa using hf0
          clear hb3
          go_wp2_with fail
          refine bodyPost_ret (results_tmp2 rfl _ _ _) rfl ?_
          refine ⟨HBR.out, .inl ⟨_, ?_, rfl⟩⟩
          exact hf0
        subst hf0
        have HFF := Lib.hid (HF.out rfl)
        have x0 := (hb3.cell (p := ⟨g8, 0, none⟩) hg8Y).trans x0
        have x1 := (hb3.cell (p := ⟨g8, 1, none⟩) hg8Y).trans x1
        have x2 := (hb3.cell (p := ⟨g8, 2, none⟩) hg8Y).trans x2
        have HO3 := Lib.hid (ownsMap_keep9 HOY.out (hb3.block gk HOY.out.lt))
        have HD3 : Hid (MedD B md j w3 D) := HDY.out.below hb3 (by omega)
        have HBK3 := Lib.hid (HBKY.out.trans (hb3.mono (by omega)))
        have HR3 : Hid (RowsAt w3 B A' n' m.xss) := HRY.out.below hb3 (by omega)
        have hb3s := hb3.size
        clear hb3 HOY HDY HBKY HRY HF
        go_wp2_with (at_mapUpdate; refine wpList_mapUpdate_own _ rfl _ _ _ 71 rfl 9 33 law Tryz.underlying71 anyElem gk mm D rfl HO3.out (by unfold maxLen; omega) _ _ _ rfl rfl hkey.out (.held (.agg #[.int .i64 m.rate, .slice A' n' c'])) [] rfl ?_; intro w6 hown6 hgr6; have HM6 := Lib.hid hown6; have HG6 := Lib.hid hgr6; clear hown6 hgr6)
        have hb6 : Below gk w3 w6 := (below_self2 (by omega)).grown HG6.out (by omega) (fun b e => by injection e with e; omega)
        have HB6 := Lib.hid (HBK3.out.trans hb6)
        have HD6 : Hid (MedD B md j w6 D) := HD3.out.below hb6 hBk
        have HR6 : Hid (RowsAt w6 B A' n' m.xss) := HR3.out.below hb6 hBk
        clear hb6
        go_roundw
        case rel =>
          refine ⟨j + 1, by omega, by go_num, ⟨mm + 1, _, by omega, HM6.out, ?_⟩, HB6, fun a b hab hb9 => ?_, HRI0.out HFF.out⟩
          · have hput := MedD.put (A' := A') (n' := n') (c' := c') HD6.out (by rw [HMJ.out]; exact HHS.out) (by rw [HMJ.out]; exact law.key hkey.out) hn' hc' (by rw [HMJ.out]; exact HR6.out)
            rw [HMJ.out] at hput
            exact hput
          · rcases Nat.lt_or_ge b j with h3 | h3
            · exact HAP.out a b hab h3
            · obtain rfl : b = j := by omega
              intro e9
              have := (HD6.out.has_ (mdOf md b).name).2 ⟨a, hab, e9⟩
              rw [HMJ.out, HHS.out] at this
              cases this
        case measure => simp [intOf]; omega
    · obtain rfl : j = n1 := by omega
      have HP2 := Lib.hid ((HB.out.cell (p := ⟨g, 2, none⟩) hggk).trans P2.out)
      have p2 := HP2.out
      have hgr : g < wr.heap.size := by omega
      go_wp2_with fail
      clear p2
      obtain ⟨wm, hwm⟩ : ∃ wm : World, wm = wr := ⟨_, rfl⟩
      rw [← hwm] at HM HB HBX hsz HP2 hgr ⊢
      clear hwm
      go_loopw [55] (fun i wx => ∃ k : Nat, k ≤ n ∧ i = .int .i64 k ∧ Hid (Below wm.heap.size wm wx) ∧ Hid (∀ c ∈ cs.take k, ∃ m ∈ md, m.name = c.media ∧ c.chan < (m.xss.length : Int))) (fun i _ => n - (intOf i).toNat)
      case atStart => exact ⟨0, Nat.zero_le _, rfl, Below.refl _ _, fun c hc => by simp at hc⟩
      case round =>
        obtain ⟨k, hk, rfl, HW, HTH⟩ := hrel
        have hszw := HW.out.size
        have HBR := Lib.hid (HBX.out.trans (HW.out.mono HBX.out.size))
        by_cases hlt : k < n
        · have hk0 : (0 : Int) ≤ (k : Int) := by omega
          have hkn : (k : Int) < (n : Int) := by omega
          obtain ⟨b, o, A', n', c', e, hb, hk7, hn', hc', _⟩ := (hh.out.below HBR.out hB).2 k hlt
          subst e
          obtain ⟨k0, k1, k2, k3, k4, k5, k6⟩ := hk7
          obtain ⟨hz1, hz2⟩ := hzc.out _ (cp_mem (by rw [hl.out]; exact hlt))
          have HTK := Lib.hid (take_cp (l := cs) (k := k) (by rw [hl.out]; exact hlt))
          obtain ⟨c, hc⟩ : ∃ c, cpOf cs k = c := ⟨_, rfl⟩
          rw [hc] at k0 k1 k2 k3 k4 k5 hz1 hz2 HTK
          clear hc
          have hkey := Lib.hid (keyS hz1)
          go_upto_region 20 with (fail)
          obtain ⟨X, g8, hX, hg8, HX, HBX8, HSX⟩ := cell_new wr 58 #[.string c.media, .int .i64 c.chan, .int .i64 c.from_, .int .i64 c.track, .int .i64 c.at_, .int .i64 c.len, .slice A' n' c']
          rw [← hX, ← hg8]
          clear hX hg8 k0 k1 k2 k3 k4 k5 k6
          obtain ⟨x0, x1, _, _, _, _, _⟩ := seven_cells HX.out
          have hg8X := blk_lt HX.out
          have HMX := HM.out.below (HW.out.trans (HBX8.out.mono hszw)) (by omega) (by omega)
          have HBR := Lib.hid (HBR.out.trans (HBX8.out.mono HBR.out.size))
          have HWX := Lib.hid (HW.out.trans (HBX8.out.mono hszw))
          obtain ⟨mm, D, hmj, hown, hD⟩ := HMX
          have HOWN := Lib.hid hown
          have HD := Lib.hid hD
          clear hown hD HBX8 HSX HX HW
          obtain ⟨hs, hhs⟩ : ∃ hs, Maps.has D (strK c.media) = hs := ⟨_, rfl⟩
          have HHS := Lib.hid hhs
          clear hhs
          cases hs with
          | false =>
            have HAT := Lib.hid (atKey_none (z := .held sndZ) HD.out.map HHS.out)
            go_upto_region 21 with (at_lookup; refine wpList_lookup_any_ok _ rfl _ _ 71 rfl 9 33 law Tryz.underlying71 (zeroSnd _) gk mm D rfl HOWN.out _ _ rfl hkey.out _ HAT.out ?_; rw [HHS.out]; unfold sndZ)
            have HBR := Lib.hid (HBR.out.trans (((Below.refl X.heap.size X).alloc (Nat.le_refl _) (.cells #[.int .i64 0, .slice none 0 0] 33)).mono HBR.out.size))
            go_wp2_with fail
            refine bodyPost_ret (results_tmp2 rfl _ _ _) rfl ?_
            refine ⟨HBR.out, .inl ⟨_, ?_, rfl⟩⟩
            decide
          | true =>
            obtain ⟨kk, hkk, hke⟩ := (HD.out.has_ c.media).1 HHS.out
            obtain ⟨A9, n9, c9, hat, _, _, hr9⟩ := HD.out.val kk hkk
            have hn9 := hr9.1
            have hmm9 := md_mem (l := md) (k := kk) (by rw [hl1.out]; exact hkk)
            rw [hke] at hat
            obtain ⟨m9, hm9⟩ : ∃ m9, mdOf md kk = m9 := ⟨_, rfl⟩
            rw [hm9] at hat hke hn9 hmm9
            have HAT := Lib.hid hat
            have HKE := Lib.hid (show m9 ∈ md ∧ m9.name = c.media ∧ m9.xss.length = n9 from ⟨hmm9, hke, hn9⟩)
            clear hat hke hkk hr9 hn9 hmm9 hm9
            go_upto_region 21 with (at_lookup; refine wpList_lookup_any_ok _ rfl _ _ 71 rfl 9 33 law Tryz.underlying71 (zeroSnd _) gk mm D rfl HOWN.out _ _ rfl hkey.out _ HAT.out ?_; rw [HHS.out])
            obtain ⟨Y, g9, hY, hg9, HY, HBY, HSY⟩ := cell_new X 33 #[.int .i64 m9.rate, .slice A9 n9 c9]
            rw [← hY, ← hg9]
            clear hY hg9
            obtain ⟨y0, y1, _, _⟩ := two_cells HY.out
            have x1 := (HBY.out.cell (p := ⟨g8, 1, none⟩) hg8X).trans x1
            have HBR := Lib.hid (HBR.out.trans (HBY.out.mono HBR.out.size))
            have HWY := Lib.hid (HWX.out.trans (HBY.out.mono HWX.out.size))
            clear HBY HSY HY
            by_cases hch : (n9 : Int) ≤ c.chan
            · have d1 : decide ((n9 : Int) ≤ c.chan) = true := by simpa using hch
              clear hch
              go_wp2_with fail
              refine bodyPost_ret (results_tmp2 rfl _ _ _) rfl ?_
              refine ⟨HBR.out, .inl ⟨_, ?_, rfl⟩⟩
              decide
            · have d1 : decide ((n9 : Int) ≤ c.chan) = false := by simpa using hch
              have HTH2 : Hid (∀ c ∈ cs.take (k + 1), ∃ m ∈ md, m.name = c.media ∧ c.chan < (m.xss.length : Int)) := fun q hq => by
                rw [HTK.out] at hq
                rcases List.mem_append.1 hq with hq | hq
                · exact HTH.out q hq
                · rw [List.mem_singleton.1 hq]
                  exact ⟨m9, HKE.out.1, HKE.out.2.1, by rw [HKE.out.2.2]; omega⟩
              clear hch
              go_wp2_with fail
              go_roundw
              case rel => exact ⟨k + 1, by omega, by go_num, HWY, HTH2⟩
              case measure => simp [intOf]; omega
        · obtain rfl : k = n := by omega
          go_wp2_with fail
          refine bodyPost_ret (results_tmp2 rfl _ _ _) rfl ?_
          refine ⟨HBR.out, .inr ⟨gk, rfl, ⟨by rw [hl1.out]; exact hn100, fun a b hab hb => HAP.out a b hab (by rw [← hl1.out]; exact hb), fun m hm => ?_, fun c hc => HTH.out c ?_⟩, hwk, ?_⟩⟩
          · obtain ⟨i, hi, rfl⟩ := List.getElem_of_mem hm
            have h9 := HRI.out i (by rw [← hl1.out]; exact hi)
            have e9 : mdOf md i = md[i] := by simp [mdOf, List.getD, hi]
            rw [e9] at h9
            exact h9
          · rw [List.take_of_length_le (by rw [hl.out]; exact Nat.le_refl _)]; exact hc
          · rw [hl1.out]
            exact HM.out.below HW.out (by omega) (by omega)
end Go.Proofs.YtkmcohnhanphdaaGreatDoor
/- edit.end. -/
namespace Go.Proofs.YtkmcohnhanphdaaGreatDoor
open Go.RowKit Go.Dw
set_option maxRecDepth 100000 in
set_option maxHeartbeats 2000000 in
theorem EEND_any (A : Option Addr) (n cap : Nat) (cs : List Cp) (hn : n ≤ 1000000) (hr : Hid (∀ c ∈ cs, 0 ≤ c.at_ ∧ c.at_ ≤ 100000000 ∧ 0 ≤ c.len ∧ c.len ≤ 100000000)) (w : World) (B : Nat) (hB : B ≤ w.heap.size) (hh : Hid (ClipsAt w B A n cs)) :
    Calls Tryz.prog 26 #[.slice A n cap] w fun e w' => e = .returned (.int .i64 (endC cs)) ∧ Below w.heap.size w w' := by
  have hl := Lib.hid hh.out.1
  have HEB : Hid (∀ k, k ≤ n → 0 ≤ endC (cs.take k) ∧ endC (cs.take k) ≤ 200000000) := by
    intro k
    induction k with
    | zero => intro _; simp [endC]
    | succ k ih =>
      intro hk
      have h1 := ih (by omega)
      have h2 := hr.out _ (cp_mem (l := cs) (k := k) (by rw [hl.out]; omega))
      rw [endC_take (by rw [hl.out]; omega)]
      omega
  go_enter Tryz.func26, Tryz.ntmps26
  go_wp2_with fail
  go_loopw [3, 8] (fun m i wr => ∃ k : Nat, k ≤ n ∧ i = .int .i64 k ∧ m = .int .i64 (endC (cs.take k)) ∧ Hid (Below w.heap.size w wr)) (fun _ i _ => n - (intOf i).toNat)
  case atStart => exact ⟨0, Nat.zero_le _, rfl, rfl, Below.refl _ _⟩
  case round =>
    obtain ⟨k, hk, rfl, rfl, HB⟩ := hrel
    have hsz := HB.out.size
    by_cases hlt : k < n
    · have hk0 : (0 : Int) ≤ (k : Int) := by omega
      have hkn : (k : Int) < (n : Int) := by omega
      obtain ⟨b, o, A', n', c', e, hb, hk7, hn', hc', _⟩ := (hh.out.below HB.out hB).2 k hlt
      subst e
      obtain ⟨k0, k1, k2, k3, k4, k5, k6⟩ := hk7
      have hrc := hr.out _ (cp_mem (l := cs) (k := k) (by rw [hl.out]; omega))
      have HE := Lib.hid (endC_take (cs := cs) (k := k) (by rw [hl.out]; omega))
      have heb := HEB.out k hk
      obtain ⟨c, hc⟩ : ∃ c, cpOf cs k = c := ⟨_, rfl⟩
      obtain ⟨m, hm⟩ : ∃ m, endC (cs.take k) = m := ⟨_, rfl⟩
      rw [hc] at k0 k1 k2 k3 k4 k5 hrc HE
      rw [hm] at HE heb ⊢
      clear hc hm
      go_upto_region 5 with (fail)
      obtain ⟨X, g8, hX, hg8, HX, HBX, HSX⟩ := cell_new wr 58 #[.string c.media, .int .i64 c.chan, .int .i64 c.from_, .int .i64 c.track, .int .i64 c.at_, .int .i64 c.len, .slice A' n' c']
      rw [← hX, ← hg8]
      clear hX hg8 k0 k1 k2 k3 k4 k5 k6
      obtain ⟨_, _, _, _, x4, x5, _⟩ := seven_cells HX.out
      have HBR := Lib.hid (HB.out.trans (HBX.out.mono hsz))
      clear HX HBX HSX
      have hw1 := IntWalk.i64_in (c.at_ + c.len) (by omega)
      by_cases hmx : m ≤ c.at_ + c.len
      · have HM : Hid (endC (cs.take (k + 1)) = c.at_ + c.len) := by show _ = _; rw [HE.out]; omega
        have hmx2 : max m (c.at_ + c.len) = c.at_ + c.len := by omega
        go_wp2_with fail
        go_roundw
        case rel => exact ⟨k + 1, by omega, by go_num, by rw [HM.out], HBR⟩
        case measure => simp [intOf]; omega
      · have HM : Hid (endC (cs.take (k + 1)) = m) := by show _ = _; rw [HE.out]; omega
        have hmx2 : max m (c.at_ + c.len) = m := by omega
        go_wp2_with fail
        go_roundw
        case rel => exact ⟨k + 1, by omega, by go_num, by rw [HM.out], HBR⟩
        case measure => simp [intOf]; omega
    · obtain rfl : k = n := by omega
      have HV : Hid (endC (cs.take k) = endC cs) := by show _ = _; rw [List.take_of_length_le (by rw [hl.out]; exact Nat.le_refl _)]
      obtain ⟨m, hm⟩ : ∃ m, endC (cs.take k) = m := ⟨_, rfl⟩
      rw [hm] at HV ⊢
      clear hm
      go_wp2_with fail
      go_ret
      rw [← HV.out]
      exact ⟨rfl, HB.out⟩
end Go.Proofs.YtkmcohnhanphdaaGreatDoor
