/- The document's numbers (base 10000), plain. -/
import Derived.Test.YtocbogdjlapogaaGreatDoorYk
import Derived.Lib.Repeat
import Derived.Test.YtocbogdjlapogaaGreatDoorYo
import Derived.Test.YtocbogdjlapogaaGreatDoorShelf
import Derived.Lib.SmallJoins
import Derived.Lib.AppendIntMem
import Derived.Test.YtocbogdjlapogaaGreatDoorYf
set_option linter.unusedSimpArgs false
set_option linter.unusedVariables false
namespace Go.Proofs.YtocbogdjlapogaaGreatDoor
open Go.RowKit Go.Dw
/-- a limb as it is written behind another one -/
def pad4 (d : Nat) : List UInt8 := List.replicate (4 - (Lib.decDigits d).length) 48 ++ Lib.decDigits d
theorem decV_zeros : ∀ n : Nat, decV (List.replicate n (48 : UInt8)) = 0
  | 0 => rfl
  | n + 1 => by
    rw [List.replicate_succ', decV_snoc, decV_zeros n]
    rfl
theorem allDig_zeros (n : Nat) : AllDig (List.replicate n (48 : UInt8)) := fun c hc => by
  obtain ⟨_, rfl⟩ := List.mem_replicate.1 hc
  decide
theorem allDig_app {l r : List UInt8} (h : AllDig l) (k : AllDig r) : AllDig (l ++ r) := fun c hc => by
  rcases List.mem_append.1 hc with h1 | h1
  · exact h c h1
  · exact k c h1
theorem decDigits_pos (u : Nat) : 0 < (Lib.decDigits u).length := by
  rw [Lib.decDigits]
  split
  · simp
  · simp
theorem dec_len4 {d : Nat} (h : d < 10000) : (Lib.decDigits d).length ≤ 4 := dec_len 4 d (by omega) (by omega)
theorem pad4_len {d : Nat} (h : d < 10000) : (pad4 d).length = 4 := by
  have := dec_len4 h
  unfold pad4
  rw [List.length_append, List.length_replicate]
  omega
theorem decV_pad4 (d : Nat) : decV (pad4 d) = d := by
  unfold pad4
  rw [decV_append, decV_zeros, decV_decDigits]
  omega
theorem dec_limb {v d : Nat} (hv : 0 < v) (hd : d < 10000) : Lib.decDigits (d + 10000 * v) = Lib.decDigits v ++ pad4 d := by
  have hg : GoodD (Lib.decDigits v ++ pad4 d) := by
    refine ⟨allDig_app (allDig_decDigits v) (allDig_app (allDig_zeros _) (allDig_decDigits d)), .inr ?_⟩
    obtain ⟨c, r, h1, h2⟩ := dec_head v hv
    exact ⟨c, r ++ pad4 d, by rw [h1]; rfl, h2⟩
  have h := good_dec hg
  rw [decV_append, decV_decDigits, decV_pad4, pad4_len hd] at h
  rw [← h]
  congr 1
  omega
end Go.Proofs.YtocbogdjlapogaaGreatDoor

/- The document's limbs as text: digits, limbs. -/
set_option linter.unusedSimpArgs false
set_option linter.unusedVariables false
namespace Go.Proofs.YtocbogdjlapogaaGreatDoor
open Go.RowKit Go.Dw Go.Joins
/-- the table of powers of ten of strconv -/
def TabAt (w : World) : Prop := Lib.TabIs Tryz.prog w "internal/strconv.uint64pow10" .u64 Lib.pow10Tab
theorem tab_named : Tryz.prog.globalNamed "internal/strconv.uint64pow10" = some 0 := by kernel_rfl
theorem TabAt.below {w w' : World} (h : TabAt w) (hb : Below w.heap.size w w') : TabAt w' := tab_stays tab_named h hb (Nat.le_refl _)
theorem TabAt.to {w w' : World} {B : Nat} (h : TabAt w) (hb : Below B w w') (hB : w.heap.size ≤ B) : TabAt w' := tab_stays tab_named h hb hB
theorem ITOA_any (n : Nat) (hn : n ≤ 9223372036854775807) (w : World) (ht : Hid (TabAt w)) : Calls Tryz.prog 47 #[.int .i64 n] w fun e w' => e = .returned (.string ⟨(Lib.decDigits n).toArray⟩) ∧ Below w.heap.size w w' :=
  (Tryz.strconv_Itoa n (by omega) (by omega) w ht.out).mono fun e w' ⟨h1, k, os, h2⟩ => ⟨by rw [h1, Lib.itoa_nonneg], by rw [h2]; exact Lib.below_grow _ _ (Nat.le_refl _) k os⟩
theorem repeat48 : ∀ n : Nat, Lib.repeatL [48] n = List.replicate n 48
  | 0 => rfl
  | n + 1 => by show [48] ++ Lib.repeatL [48] n = _; rw [repeat48 n, List.replicate_succ]; rfl
theorem can_drop_pos {b : Nat} (hb : 0 < b) {l : List Nat} (h : CanN b l) {k : Nat} (hk : k < l.length) : 0 < valB b (l.drop k) := by
  have hc : CanN b (l.drop k) := ⟨h.1.drop k, by rw [List.getLast?_drop, if_neg (by omega)]; exact h.2⟩
  exact Nat.lt_of_lt_of_le (Nat.pow_pos hb) (hc.ge (by intro e; have := congrArg List.length e; simp at this; omega))
theorem decFrom_all : ∀ (l : List UInt8) (a : Nat), AllDig l → Lib.decFrom a l = some (l.foldl (fun a c => 10 * a + (c.toNat - 48)) a)
  | [], a, _ => rfl
  | c :: l, a, h => by
    have hc := h c (by simp)
    unfold Lib.decFrom Lib.digitVal
    rw [if_pos hc]
    dsimp only
    rw [decFrom_all l _ (fun x hx => h x (by simp [hx])), Nat.mul_comm a 10]
    rfl
theorem atoi_all {l : List UInt8} (h : AllDig l) (h0 : l ≠ []) : Lib.atoi l = some (decV l : Int) := by
  cases l with
  | nil => exact absurd rfl h0
  | cons c r =>
    have hc := h c (by simp)
    have e45 : (45 : UInt8).toNat = 45 := rfl
    have e43 : (43 : UInt8).toNat = 43 := rfl
    unfold Lib.atoi
    dsimp only
    rw [if_neg (fun e => by have : c = 45 := (by simpa using e); revert hc; rw [this]; decide), if_neg (fun e => by have : c = 43 := (by simpa using e); revert hc; rw [this]; decide)]
    unfold Lib.decNat
    rw [if_neg (by simp), decFrom_all _ _ h]
    rfl
theorem ATOI_any (s : ByteArray) (hs : s.size ≤ 18) (h0 : 0 < s.size) (hd : Hid (AllDig s.data.toList)) (w : World) : Calls Tryz.prog 59 #[.string s] w fun e w' => e = .returned (.tuple #[.int .i64 (decV s.data.toList), .nilIface]) ∧ Below w.heap.size w w' :=
  (Tryz.strconv_Atoi s _ hs (atoi_all hd.out (by intro e; have := len_data s; rw [e] at this; simp at this; omega)) w).mono fun e w' ⟨h1, t, h2⟩ => ⟨h1, by rw [h2]; exact below_bytesWorld _ _ _ _ (Nat.le_refl _)⟩
theorem REPEAT_any (c : Nat) (hc : c ≤ 1000000) (w : World) : Calls Tryz.prog 62 #[.string ⟨#[48]⟩, .int .i64 c] w fun e w' => (∃ z : ByteArray, e = .returned (.string z) ∧ z.data.toList = List.replicate c 48) ∧ Below w.heap.size w w' :=
  (Tryz.strings_Repeat ⟨#[48]⟩ c w (by omega) (by show 1 * c ≤ _; omega)).mono fun e w' ⟨h1, h2⟩ => ⟨⟨_, h1, by show Lib.repeatL [48] c = _; exact repeat48 c⟩, h2⟩
set_option maxRecDepth 100000 in
set_option maxHeartbeats 2000000 in
theorem RDIGITS_any (A : Option Addr) (n c x : Nat) (hn : n ≤ 1000000) (w : World) (B : Nat) (hB : B ≤ w.heap.size) (ht : Hid (TabAt w)) (hh : Hid (LimAt w B A n c x)) :
    Calls Tryz.prog 45 #[.slice A n c] w fun e w' => e = .returned (.string ⟨(Lib.decDigits x).toArray⟩) ∧ Below w.heap.size w w' := by
  obtain ⟨hc1, hc2, xs, hx, hv, hr⟩ := hh.out
  have hl := hr.1
  unfold maxLen at hc2
  have HX := Lib.hid hx
  have HV := Lib.hid hv
  have HR := Lib.hid hr
  have HL := Lib.hid hl
  clear hx hv hr hl hh
  by_cases h0 : n = 0
  · subst h0
    have HS : Hid (Lib.decDigits x = [48]) := by
      show _ = _
      rw [← HV.out, List.eq_nil_of_length_eq_zero HL.out]
      exact dec_zero
    go_enter Tryz.func45, Tryz.ntmps45
    go_wp2_with fail
    go_ret
    exact ⟨by rw [HS.out]; rfl, Below.refl _ _⟩
  · obtain ⟨m, rfl⟩ : ∃ m, n = m + 1 := ⟨n - 1, by omega⟩
    obtain ⟨q, o, rfl, hq⟩ := HR.out.addr (by omega)
    have hcell := HR.out.cell (i := m) (by omega)
    obtain ⟨d, hd⟩ : ∃ d, xs.getD m 0 = d := ⟨_, rfl⟩
    rw [hd] at hcell
    have hdx := HX.out.1.get (by omega) m
    rw [hd] at hdx
    have HDR : Hid (valB 10000 (xs.drop m) = d) := by
      show _ = _
      rw [valB_drop _ _ (by rw [HL.out]; omega), hd, List.drop_of_length_le (by rw [HL.out]; omega)]
      simp [valB]
    have hm1 : ((m + 1 : Nat) : Int) - 1 = (m : Int) := by omega
    have hn0 : ((m + 1 : Nat) : Int) ≠ 0 := by omega
    have hm2 : ((m + 1 : Nat) : Int) - 2 = (m : Int) - 1 := by omega
    clear h0 hd
    go_enter Tryz.func45, Tryz.ntmps45
    go_wp2_with fail
    refine (ITOA_any d (by omega) _ ht).mono ?_
    rintro e w1 ⟨rfl, hb1⟩
    have HB1 := Lib.hid hb1
    clear hb1 hcell
    obtain ⟨s1, hs1⟩ : ∃ s1 : ByteArray, s1 = ⟨(Lib.decDigits d).toArray⟩ := ⟨_, rfl⟩
    have HS1 : Hid (s1.data.toList = Lib.decDigits (valB 10000 (xs.drop m))) := by show _ = _; rw [hs1, HDR.out]
    have hs4 : s1.size ≤ 4 := by rw [← len_data, hs1]; exact dec_len4 hdx
    rw [← hs1]
    clear hs1 hdx
    go_wp2_with fail
    go_loopw [3, 4] (fun sv i wr => ∃ (k : Nat) (z : Int) (s : ByteArray), k ≤ m ∧ i = .int .i64 z ∧ sv = .string s ∧ s.size + 4 * k ≤ 4 * (m + 1) ∧ Hid (z = (k : Int) - 1) ∧ Hid (s.data.toList = Lib.decDigits (valB 10000 (xs.drop k))) ∧ Hid (Below w.heap.size w wr)) (fun _ i _ => (intOf i + 1).toNat)
    case atStart => exact ⟨m, _, s1, Nat.le_refl _, rfl, rfl, by omega, by show _ = _; omega, HS1, HB1⟩
    case round =>
      obtain ⟨k, z, s, hk, rfl, rfl, hsz, hz, hs, hw⟩ := hrel
      by_cases hk0 : 0 < k
      · obtain ⟨j, rfl⟩ : ∃ j, k = j + 1 := ⟨k - 1, by omega⟩
        obtain rfl : z = (j : Int) := by have := hz.out; omega
        have hcell := (HR.out.below hw.out hB).cell (i := j) (by omega)
        have hdx := HX.out.1.get (by omega) j
        obtain ⟨d, hd⟩ : ∃ d, xs.getD j 0 = d := ⟨_, rfl⟩
        rw [hd] at hcell hdx
        have HPV := Lib.hid (can_drop_pos (by omega) HX.out (k := j + 1) (by rw [HL.out]; omega))
        have HDV : Hid (valB 10000 (xs.drop j) = d + 10000 * valB 10000 (xs.drop (j + 1))) := by
          show _ = _
          rw [valB_drop _ _ (by rw [HL.out]; omega), hd]
        have hj : (0 : Int) ≤ (j : Int) ∧ (j : Int) < ((m + 1 : Nat) : Int) := by omega
        obtain ⟨hj1, hj2⟩ := hj
        clear hd hz
        go_wp2_with fail
        refine (ITOA_any d (by omega) _ (Lib.hid (ht.out.below hw.out))).mono ?_
        rintro e w2 ⟨rfl, hb2⟩
        have HB2 := Lib.hid (hw.out.trans (hb2.mono hw.out.size))
        obtain ⟨p, hp⟩ : ∃ s1 : ByteArray, s1 = ⟨(Lib.decDigits d).toArray⟩ := ⟨_, rfl⟩
        have HP : Hid (p.data.toList = Lib.decDigits d) := by show _ = _; rw [hp]
        have hpl : p.size ≤ 4 := by rw [← len_data, HP.out]; exact dec_len4 hdx
        rw [← hp]
        obtain ⟨r, hr⟩ : ∃ r, 4 - p.size = r := ⟨_, rfl⟩
        have hri : (4 : Int) - (p.size : Int) = (r : Int) := by omega
        have HRR : Hid (r = 4 - (Lib.decDigits d).length) := by show _ = _; rw [← hr, ← HP.out, len_data]
        clear hb2 hp hcell hr
        go_wp2_with fail
        refine (REPEAT_any r (by omega) _).mono ?_
        rintro e w3 ⟨⟨zz, rfl, hz3⟩, hb3⟩
        have HB3 := Lib.hid (HB2.out.trans (hb3.mono HB2.out.size))
        have HZ3 := Lib.hid hz3
        have hzz : zz.size = r := by rw [← len_data, hz3, List.length_replicate]
        have hrp : r + p.size = 4 := by omega
        clear hb3 hz3
        go_wp2_with fail
        go_roundw
        case rel =>
          refine ⟨j, _, _, by omega, rfl, rfl, by simp only [ByteArray.size_append]; omega, by show _ = _; omega, ?_, HB3⟩
          show _ = _
          rw [HDV.out, dec_limb HPV.out hdx]
          unfold pad4
          rw [← HRR.out, ← HZ3.out, ← HP.out, ← hs.out]
          simp [ByteArray.data_append]
        case measure => simp [intOf] <;> omega
      · obtain rfl : k = 0 := by omega
        obtain rfl : z = -1 := by have := hz.out; omega
        have HF : Hid (s = ⟨(Lib.decDigits x).toArray⟩) := by
          have := hs.out
          rw [List.drop_zero, HV.out] at this
          exact ba_ext this
        go_wp2_with fail
        go_ret
        exact ⟨by rw [HF.out]; rfl, hw.out⟩
end Go.Proofs.YtocbogdjlapogaaGreatDoor

/- The document's limbs read. -/
set_option linter.unusedSimpArgs false
set_option linter.unusedVariables false
namespace Go.Proofs.YtocbogdjlapogaaGreatDoor
open Go.RowKit Go.Dw Go.Joins
theorem ext_pre (t : ByteArray) (i : Nat) : (t.extract 0 i).data.toList = t.data.toList.take i := by
  rw [ByteArray.data_extract]; simp
theorem limb_step {l : List UInt8} {k : Nat} (hk : k ≤ l.length) (h4 : k + 4 = l.length ∨ k = 0) : decV l = decV (l.drop k) + 10000 * decV (l.take k) := by
  have h := decV_append (l.take k) (l.drop k)
  rw [List.take_append_drop, List.length_drop] at h
  rcases h4 with h4 | h4
  · rw [h, show l.length - k = 4 by omega]; omega
  · subst h4
    rw [h]; simp [decV]
set_option maxRecDepth 100000 in
set_option maxHeartbeats 2000000 in
theorem RLIMBS_any (s : ByteArray) (hd : Hid (AllDig s.data.toList)) (hs : s.size ≤ 1000000) (w : World) :
    Calls Tryz.prog 39 #[.string s] w (OutL w (decV s.data.toList) s.size) := by
  obtain ⟨V, hV⟩ : ∃ V, decV s.data.toList = V := ⟨_, rfl⟩
  obtain ⟨N, hN⟩ : ∃ N, s.size = N := ⟨_, rfl⟩
  have HV0 := Lib.hid hV
  rw [hV, hN]
  rw [hN] at hs
  clear hV
  go_enter Tryz.func39, Tryz.ntmps39
  go_wp2_with fail
  go_loopw [0, 3] (fun sv ov wr => ∃ (t : ByteArray) (nb : Nat) (Ab : Option Addr) (cb : Nat) (L : List Nat), sv = .string t ∧ ov = .slice Ab nb cb ∧ nb + t.size ≤ N ∧ Hid (AllDig t.data.toList) ∧ Hid (OwnN .i64 3 wr w.heap.size Ab nb cb L) ∧ Hid (DigN 10000 L) ∧ Hid (valB 10000 L + 10000 ^ nb * decV t.data.toList = V) ∧ Hid (Below w.heap.size w wr)) (fun sv _ _ => match sv with | .string t => t.size | _ => 0)
  case atStart => exact ⟨s, 0, none, 0, [], rfl, rfl, by omega, hd, OwnN.nil _ _ _ _, DigN.nil _, by show _ = _; simp [valB]; exact HV0.out, Below.refl _ _⟩
  case round =>
    clear hd HV0 hN
    obtain ⟨t, nb, Ab, cb, L, rfl, rfl, hsz, hd, hown, hD, hI, hw⟩ := hrel
    have hlk := Lib.hid hown.out.1
    by_cases h0 : 0 < t.size
    · obtain ⟨k, hk⟩ : ∃ k, t.size - 4 = k := ⟨_, rfl⟩
      have hk4 : k + 4 = t.size ∨ k = 0 := by omega
      have hkl : k < t.size := by omega
      have hkd : t.size - k ≤ 4 := by omega
      have hST := Lib.hid (limb_step (l := t.data.toList) (k := k) (by rw [len_data]; omega) (by rw [len_data]; exact hk4))
      obtain ⟨u, hu⟩ : ∃ u : ByteArray, u = t.extract k t.size := ⟨_, rfl⟩
      have HU : Hid (u.data.toList = t.data.toList.drop k) := by show _ = _; rw [hu]; exact ext_data t k
      obtain ⟨v, hv⟩ : ∃ u : ByteArray, u = t.extract 0 k := ⟨_, rfl⟩
      have HVV : Hid (v.data.toList = t.data.toList.take k) := by show _ = _; rw [hv]; exact ext_pre t k
      have hus : u.size = t.size - k := by rw [← len_data, HU.out, List.length_drop, len_data]
      have hvs : v.size = k := by rw [← len_data, HVV.out, List.length_take, len_data]; omega
      have HDU : Hid (AllDig u.data.toList) := by rw [HU.out]; exact hd.out.drop k
      have HDV : Hid (AllDig v.data.toList) := by rw [HVV.out]; exact hd.out.take k
      rw [← HU.out, ← HVV.out] at hST
      have hnx : decV u.data.toList < 10000 := by
        have h1 := decV_lt HDU.out
        have h2 := Nat.pow_le_pow_right (show 0 < 10 by omega) (show u.data.toList.length ≤ 4 by rw [len_data]; omega)
        omega
      obtain ⟨n, hn⟩ : ∃ n, decV u.data.toList = n := ⟨_, rfl⟩
      have HNN := Lib.hid hn
      rw [hn] at hST hnx
      have hmax : max (0 : Int) ((t.size : Int) - 4) = (k : Int) := by omega
      clear hn hk
      go_wp2_with fail
      rw [← hu]
      refine (ATOI_any u (by omega) (by omega) HDU _).mono ?_
      rintro e w1 ⟨rfl, hb1⟩
      rw [HNN.out]
      have HO1 := Lib.hid (hown.out.below hb1)
      have HB1 := Lib.hid (hw.out.trans (hb1.mono hw.out.size))
      have hsz1 : w.heap.size ≤ w1.heap.size := HB1.out.size
      clear hb1 hu
      go_wp2_with (at_builtin; refine wpList_push_num rfl (.tmp 21) (.tmp 23) 48 3 .i64 8 rfl Tryz.underlying48 int_info w.heap.size Ab nb cb L n _ rfl _ rfl rfl rfl HO1.out (by omega) (by omega) hsz1 ?_; intro g cap w3 p1 p2 p3)
      rw [← hv]
      go_roundw
      case rel =>
        refine ⟨v, nb + 1, some ⟨g, 0, none⟩, cap, L ++ [n], rfl, rfl, by omega, HDV, p1, hD.out.snoc hnx, ?_, HB1.out.trans p2.out⟩
        show _ = _
        have h1 := hI.out
        rw [hST.out, Nat.mul_add] at h1
        rw [valB_snoc, hlk.out, Nat.pow_succ, Nat.mul_assoc]
        omega
      case measure => simp; omega
    · have hz : t.size = 0 := by omega
      have HX : Hid (valB 10000 L = V) := by
        have h1 := hI.out
        rw [List.eq_nil_of_length_eq_zero (l := t.data.toList) (by rw [len_data]; exact hz), decV_nil] at h1
        show _ = _
        omega
      go_wp2_with fail
      refine (RTRIM_own _ _ _ _ _ _ _ hown hD HX).mono ?_
      rintro e w1 ⟨⟨m, rfl, h1, h2⟩, rfl⟩
      have H1 := Lib.hid h1
      clear h1
      go_wp2_with fail
      go_ret
      exact ⟨_, _, _, rfl, H1.out, by omega, hw.out⟩
end Go.Proofs.YtocbogdjlapogaaGreatDoor

/- The document's numbers of whole numbers; what they write. -/
set_option linter.unusedSimpArgs false
set_option linter.unusedVariables false
namespace Go.Proofs.YtocbogdjlapogaaGreatDoor
open Go.RowKit Go.Dw Go.Joins
set_option maxRecDepth 100000 in
set_option maxHeartbeats 1000000 in
theorem IFMT_any (u : Nat) (hu : u < 18446744073709551616) (w : World) (ht : Hid (TabAt w)) :
    Calls Tryz.prog 61 #[.int .u64 u, .int .i64 10] w fun e w' => e = .returned (.string ⟨(Lib.decDigits u).toArray⟩) ∧ Below w.heap.size w w' := by
  by_cases hs : u < 100
  · have hs9 : (u : Int) < 100 := by omega
    go_enter Tryz.func61, Tryz.ntmps61
    go_wp2_with (go_at_call 68; refine (Tryz.internal_strconv_small u hs _).mono ?_; rintro e w' ⟨rfl, rfl⟩)
    go_ret
    exact ⟨rfl, Below.refl _ _⟩
  · have hs9 : ¬ (u : Int) < 100 := by omega
    have hu1 : 1 ≤ u := by omega
    have hnd20 : Lib.nDigits u ≤ 20 := by have := Lib.numDigits_eq u hu1 hu; split at this <;> omega
    have hal : Tryz.prog.arrayLen 97 = 24 := by simp [Program.arrayLen, Tryz.underlying97]
    obtain ⟨nd, hnd⟩ : ∃ nd, Lib.nDigits u = nd := ⟨_, rfl⟩
    have HND := Lib.hid hnd
    have hsl : ∀ W, (Instr.sliceAt 97 (.pointer (some ⟨w.heap.size, 0, none⟩)) none (some (.int .i64 (nd : Int))) none).run Tryz.prog W = .ok (.slice (some ⟨w.heap.size, 0, none⟩) nd 24) W := fun W => by
      rw [run_sliceAt_array_h W 97 ⟨w.heap.size, 0, none⟩ (by simp [Program.arrayLen, Program.elem, Tryz.underlying97]) .i64 (nd : Int) (by omega) (by rw [hal]; omega)]
      go_simp
    have hH0 := Lib.holds_zero0 w 97 nd (by omega)
    have hfmt := Tryz.internal_strconv_formatBase10 w.heap.size 0 24 u (Array.replicate nd 0) (w.alloc (.cells Lib.zeros24 97)) hH0 (by rw [Array.size_replicate, ← hnd]; exact Lib.lt_pow_nDigits u) hu (by rw [Array.size_replicate]; omega)
    rw [Array.size_replicate] at hfmt
    have HH0 := Lib.hid hH0
    clear hH0 hal hnd
    go_enter Tryz.func61, Tryz.ntmps61
    go_wp2_with (go_at_call 69; refine (Tryz.internal_strconv_numDigits u hu1 hu _ (Lib.tabIs_alloc ht.out _)).mono ?_; rintro e w' ⟨rfl, rfl⟩; rw [HND.out])
    refine hfmt.mono ?_
    rintro e w' ⟨rfl, k, v', dk, rfl, hF⟩
    rw [← HND.out] at hF
    have hcv : (convert 94 9 (.slice (some ⟨w.heap.size, 0, none⟩) nd 24)).run Tryz.prog ((Sort.putRow (fun (b : UInt8) => Value.int .u8 (b.toNat : Int)) (w.alloc (.cells Lib.zeros24 97)) w.heap.size 0 dk).drewN k) = .ok (.string ⟨(Lib.decDigits u).toArray⟩) ((Sort.putRow (fun (b : UInt8) => Value.int .u8 (b.toNat : Int)) (w.alloc (.cells Lib.zeros24 97)) w.heap.size 0 dk).drewN k) := by
      have h := run_convert_bytes_back (P := Tryz.prog) ((Sort.putRow (fun (b : UInt8) => Value.int .u8 (b.toNat : Int)) (w.alloc (.cells Lib.zeros24 97)) w.heap.size 0 dk).drewN k) 94 9 5 ⟨w.heap.size, 0, none⟩ 24 (Lib.decDigits u) Tryz.underlying94 Tryz.underlying5 Tryz.underlying9 (fun j hj => by
        rw [Lib.row_is_numeral hF j hj, Lib.add_plain, World.cell?_drewN]
        exact Sort.cell?_putRow (fun (b : UInt8) => Value.int .u8 (b.toNat : Int)) _ w.heap.size 0 _ dk HH0.out (by rw [hF.size, Array.size_replicate, HND.out]) j (by rw [hF.size]; rw [Lib.decDigits_length] at hj; exact hj))
      rw [Lib.decDigits_length, HND.out] at h
      exact h
    go_wp2_with fail
    go_ret
    refine ⟨rfl, ?_⟩
    rw [Sort.alloc_eq_grow]
    obtain ⟨os', _, e⟩ := Sort.putRow_grow_new (fun (b : UInt8) => Value.int .u8 (b.toNat : Int)) w #[Obj.cells Lib.zeros24 97] w.heap.size 0 dk (Nat.le_refl _)
    rw [e]
    exact belowN (Lib.below_grow _ w (Nat.le_refl _) 0 os') k
end Go.Proofs.YtocbogdjlapogaaGreatDoor
