/- Numbers as bytes and back, on both sides. -/
import Derived.Test.YtlnjildkdmeflaaDoorByte
import Derived.PlainAid
import Derived.Laws.BitsAllLaws
set_option linter.unusedSimpArgs false
set_option linter.unusedVariables false
namespace Go.Proofs.YtlnjildkdmeflaaDoor
open Go.RowKit Go.Dw
def byteZ (x : Int) : UInt8 := UInt8.ofNat (x % 256).toNat
def leZ : Int → Nat → By
  | _, 0 => []
  | x, k + 1 => byteZ x :: leZ (x / 256) k
def shZ (x : Int) : Nat → Int
  | 0 => x
  | k + 1 => shZ (x / 256) k
theorem shZ_succ (x : Int) : ∀ k, shZ x (k + 1) = shZ x k / 256
  | 0 => rfl
  | k + 1 => shZ_succ (x / 256) k
theorem leZ_length (x : Int) : ∀ k, (leZ x k).length = k
  | 0 => rfl
  | k + 1 => by simp [leZ, leZ_length (x / 256) k]
theorem leZ_snoc : ∀ (k : Nat) (x : Int), leZ x (k + 1) = leZ x k ++ [byteZ (shZ x k)]
  | 0, _ => rfl
  | k + 1, x => by
    show byteZ x :: leZ (x / 256) (k + 1) = _
    rw [leZ_snoc k]; rfl
theorem byteZ_toNat (x : Int) : ((byteZ x).toNat : Int) = x % 256 := by
  unfold byteZ
  have h1 : (x % 256).toNat < 256 := by omega
  rw [UInt8.toNat_ofNat']
  omega
theorem wpList_push_byte {ops : Array Oper} {rest : List Oper} {o : Oper} {a : Act} {Q : Exit → Act → World → Prop} {w0 : World} (hgd : o.guard = none) (s x : Operand)
    (ho : o.op = .call { callee := .builtin .append, args := #[s, x], argTypes := #[26, 26] }) (base : Nat) (A : Option Addr) (n c : Nat) (bs : By) (z : Int) (b : UInt8) (hz : z = (b.toNat : Int)) (g0 : Nat) (hg0 : w0.heap.size = g0)
    (hs : a.eval s = .slice A n c) (hx : a.eval x = .slice (some ⟨g0, 0, none⟩) 1 1) (hown : OwnBys w0 base (.slice A n c) bs) (hn : n ≤ 140737488355327) (hb : base ≤ w0.heap.size)
    (h : ∀ g cap w', OwnBys w' base (.slice (some ⟨g, 0, none⟩) (n + 1) cap) (bs ++ [b]) → Gr w0 w' A (some ⟨g, 0, none⟩) → wpList Tryd.prog ops Q rest (a.put o.dst (.slice (some ⟨g, 0, none⟩) (n + 1) cap)) w') :
    wpList Tryd.prog ops Q (o :: rest) a (w0.alloc (.cells #[.int .u8 z] 5)) := by
  obtain ⟨i1, e0, e1, e2, e3⟩ := info_parts byte_info
  subst hg0
  subst hz
  have hn' : n = bs.length := by
    obtain ⟨A', c', e, _, _⟩ := own_form hown
    injection e
  subst hn'
  refine wpList_append_lies _ hgd s x 26 ho base 5 i1 _ 1 1 Tryd.underlying26 e0 e1 e2 e3 rfl (by omega) (.slice A bs.length c) bs.length (bysC bs) hs (World.ownsRow.alloc hown _) ⟨w0.heap.size, 0, none⟩ 1 1 (bysC [b]) hx rfl (cell_one_new _ _ _) (by intro z hz; simp [bysC, byV] at hz; subst hz; rfl) (by omega) (by simp only [maxLen]; omega) (by omega) (by simp; omega) _ rfl ?_
  intro g cap w' h1 h2 h3 _
  rw [own_blkA] at h2 h3
  have hgr : Gr w0 w' A (some ⟨g, 0, none⟩) := by
    refine Gr.alloc ⟨h2, ?_⟩
    rcases h3 with h3 | h3
    · exact .inl h3.symm
    · exact .inr ⟨g, rfl, by rw [h3]; exact Nat.le_refl _⟩
  refine h g cap w' ?_ hgr
  unfold OwnBys
  rw [bysC_append, List.length_append]
  exact h1
set_option maxHeartbeats 1600000 in
theorem PUT_any (base : Nat) (A : Option Addr) (n c : Nat) (bs : By) (x : Int) (m : Nat) (hx1 : -9223372036854775808 ≤ x) (hx2 : x ≤ 9223372036854775807) (hm : m ≤ 8) (hn : n ≤ 1000000000000) (w : World) (hb : base ≤ w.heap.size) (ho : Hid (OwnBys w base (.slice A n c) bs)) :
    Calls Tryd.prog 17 #[.slice A n c, .int .i64 x, .int .i64 m] w fun e w' => ∃ A' n' c', e = .returned (.slice A' n' c') ∧ OwnBys w' base (.slice A' n' c') (bs ++ leZ x m) ∧ Gr w w' A A' := by
  have hlen : n = bs.length := by
    obtain ⟨A', c', e, _, _⟩ := own_form ho.out
    injection e
  have HL := Lib.hid hlen
  clear hlen
  go_enter Tryd.func17, Tryd.ntmps17
  go_wp2_with fail
  go_loopw [0, 1, 8] (fun v y i wr => ∃ (k : Nat) (A5 : Option Addr) (n5 c5 : Nat), k ≤ m ∧ i = .int .i64 k ∧ y = .int .i64 (shZ x k) ∧ v = .slice A5 n5 c5 ∧ Hid (OwnBys wr base (.slice A5 n5 c5) (bs ++ leZ x k)) ∧ Hid (Gr w wr A A5)) (fun _ _ i _ => m - (intOf i).toNat)
  case atStart => exact ⟨0, A, n, c, Nat.zero_le _, rfl, rfl, rfl, by simp [leZ]; exact ho, Gr.refl _ _⟩
  case round =>
    obtain ⟨k, A5, L, c5, hk, rfl, rfl, rfl, hO, hS⟩ := hrel
    by_cases hlt : k < m
    · have hkI : (k : Int) < (m : Int) := by omega
      have hsz : base ≤ wr.heap.size := Nat.le_trans hb hS.out.g.size
      have hll : (bs ++ leZ x k).length = n + k := by rw [List.length_append, leZ_length, HL.out]
      have HLL := Lib.hid hll
      obtain ⟨y, hy⟩ : ∃ y, shZ x k = y := ⟨_, rfl⟩
      have HY : Hid (shZ x (k + 1) = y / 256) := by show _ = _; rw [shZ_succ, hy]
      have HN : Hid ((bs ++ leZ x k) ++ [byteZ y] = bs ++ leZ x (k + 1)) := by show _ = _; rw [leZ_snoc, hy, List.append_assoc]
      rw [hy]
      obtain ⟨acc, ha⟩ : ∃ acc, bs ++ leZ x k = acc := ⟨_, rfl⟩
      rw [ha] at hO HLL HN
      have hL : L = List.length acc := by
        obtain ⟨A', c', e, _, _⟩ := own_form hO.out
        injection e
      have hle : L ≤ 140737488355327 := by have := HLL.out; omega
      clear hy hll ha hL
      go_wp2_with (with_reducible refine wpList_push_byte rfl (.tmp 10) (.tmp 13) rfl base A5 L c5 acc (y % 256) (byteZ y) (byteZ_toNat y).symm wr.heap.size rfl rfl rfl hO.out hle hsz ?_; intro g5 cap5 w5 hown5 hb5; have HO5 := Lib.hid hown5; rw [HN.out] at HO5; have HB5 := Lib.hid (hS.out.trans hb5); clear hown5 hb5)
      go_roundw
      case rel => exact ⟨k + 1, _, _, _, by omega, by go_num, by rw [HY.out], rfl, HO5, HB5⟩
      case measure => simp [intOf]; omega
    · obtain rfl : k = m := by omega
      go_wp2_with fail
      go_ret
      exact ⟨_, _, _, rfl, hO.out, hS.out⟩
theorem shZ_pow (x : Int) : ∀ k, shZ x k = x / (2 : Int) ^ (8 * k)
  | 0 => by simp [shZ]
  | k + 1 => by
    rw [shZ_succ, shZ_pow x k, Int.ediv_ediv_of_nonneg (Int.le_of_lt (Int.pow_pos (by omega))), Nat.mul_add, Int.pow_add]; rfl
set_option maxHeartbeats 1600000 in
theorem RLITTLE_any (x : Int) (m : Nat) (hx1 : 0 ≤ x) (hx2 : x ≤ 9223372036854775807) (hm : m ≤ 4) (w : World) :
    Calls Tryd.prog 21 #[.int .i64 x, .int .i64 m] w fun e w' => ∃ v, e = .returned v ∧ OwnBys w' w.heap.size v (leZ x m) ∧ Below w.heap.size w w' := by
  go_enter Tryd.func21, Tryd.ntmps21
  go_wp2_with fail
  go_loopw [5, 6] (fun v i wr => ∃ k : Nat, k ≤ m ∧ i = .int .i64 k ∧ Hid (OwnBys wr w.heap.size v (leZ x k)) ∧ Hid (Below w.heap.size w wr)) (fun _ i _ => m - (intOf i).toNat)
  case atStart => exact ⟨0, Nat.zero_le _, rfl, World.ownsRow_nil _ _ _ _, Below.refl _ _⟩
  case round =>
    obtain ⟨k, hk, rfl, hO, hS⟩ := hrel
    obtain ⟨A5, c5, rfl, hcc1, hcc2⟩ := own_form hO.out
    by_cases hlt : k < m
    · have hkI : (k : Int) < (m : Int) := by omega
      have hk0 : (0 : Int) ≤ 8 * (k : Int) := by omega
      have hsz : w.heap.size ≤ wr.heap.size := hS.out.size
      have HLL := Lib.hid (leZ_length x k)
      have HN : Hid (leZ x k ++ [byteZ (x / 2 ^ (8 * k))] = leZ x (k + 1)) := by rw [← shZ_pow]; exact (leZ_snoc k x).symm
      obtain ⟨acc, ha⟩ : ∃ acc, leZ x k = acc := ⟨_, rfl⟩
      rw [ha] at hO HLL HN ⊢
      obtain ⟨L, hL⟩ : ∃ L, List.length acc = L := ⟨_, rfl⟩
      rw [hL] at hO HLL ⊢
      have hle : L ≤ 140737488355327 := by have := HLL.out; omega
      clear hcc1 hcc2 ha hL
      go_wp2_with (with_reducible refine wpList_push_byte rfl (.tmp 12) (.tmp 18) rfl w.heap.size A5 L c5 acc (x / 2 ^ (8 * k) % 256) (byteZ (x / 2 ^ (8 * k))) (byteZ_toNat _).symm wr.heap.size rfl rfl rfl hO.out hle hsz ?_; intro g5 cap5 w5 hown5 hb5; have HO5 := Lib.hid hown5; rw [HN.out] at HO5; have HB5 := Lib.hid (hS.out.trans (hb5.below hsz (fun k hk => (own_lt_by hO.out k hk).1))); clear hown5 hb5)
      go_roundw
      case rel => exact ⟨k + 1, by omega, by go_num, HO5, HB5⟩
      case measure => simp [intOf]; omega
    · obtain rfl : k = m := by omega
      go_wp2_with fail
      go_ret
      exact ⟨_, rfl, hO.out, hS.out⟩
theorem i64_or_join (a b : Nat) (ha : a % 256 = 0) (hb : b < 256) (h : a + b < 4611686018427387904) : bits .or .i64 (a : Int) (b : Int) = ((a + b : Nat) : Int) := by
  have h1 : (BitVec.ofInt 64 (a : Int)).toNat = a := by
    rw [BitVec.ofInt_natCast, BitVec.toNat_ofNat]; exact Nat.mod_eq_of_lt (by omega)
  have h2 : (BitVec.ofInt 64 (b : Int)).toNat = b := by
    rw [BitVec.ofInt_natCast, BitVec.toNat_ofNat]; exact Nat.mod_eq_of_lt (by omega)
  show IntKind.i64.wrap ((BitVec.ofInt 64 (a : Int) ||| BitVec.ofInt 64 (b : Int)).toNat : Int) = _
  rw [BitVec.toNat_or, h1, h2, nat_join8 a b ha hb]
  exact IntWalk.i64_in _ (by omega)
/-- what bytes say, the least significant one first -/
def numB : By → Nat
  | [] => 0
  | b :: t => b.toNat + 256 * numB t
theorem numB_lt : ∀ (bs : By), numB bs < 256 ^ bs.length
  | [] => by simp [numB]
  | b :: t => by
    have := numB_lt t
    have hb := b.toNat_lt
    simp only [numB, List.length_cons, Nat.pow_succ]
    omega
theorem drop_by {bs : By} {k : Nat} (hk : k < bs.length) : bs.drop k = byOf bs k :: bs.drop (k + 1) := by
  rw [List.drop_eq_getElem_cons hk]; simp [byOf, List.getD, List.getElem?_eq_getElem hk]
set_option maxHeartbeats 1600000 in
theorem GET_any (A : Option Addr) (n c : Nat) (bs : By) (hn : n ≤ 4) (w : World) (B : Nat) (hB : B ≤ w.heap.size) (hh : Hid (BysAt w B A n bs)) :
    Calls Tryd.prog 46 #[.slice A n c] w fun e w' => e = .returned (.int .i64 (numB bs)) ∧ w = w' := by
  have hl := Lib.hid hh.out.1
  have hw1 : wrap64 ((n : Int) - 1) = (n : Int) - 1 := IntWalk.wrap64_in _ ⟨by omega, by omega⟩
  go_enter Tryd.func46, Tryd.ntmps46
  go_wp2_with fail
  go_loopw [3, 4] (fun v i wr => ∃ k : Nat, k ≤ n ∧ i = .int .i64 ((k : Int) - 1) ∧ v = .int .i64 (numB (bs.drop k)) ∧ wr = w) (fun _ i _ => (intOf i + 1).toNat)
  case atStart => exact ⟨n, Nat.le_refl _, rfl, by rw [← hl.out, List.drop_length]; rfl, rfl⟩
  case round =>
    obtain ⟨k, hk, rfl, rfl, rfl⟩ := hrel
    by_cases hlt : 0 < k
    · obtain ⟨k', rfl⟩ : ∃ k', k = k' + 1 := ⟨k - 1, by omega⟩
      obtain ⟨b, o, rfl, hb, hc⟩ := hh.out.2 k' (by omega)
      have HV : Hid (numB (bs.drop k') = (byOf bs k').toNat + 256 * numB (bs.drop (k' + 1))) := by show _ = _; rw [drop_by (by rw [hl.out]; omega)]; rfl
      have ha3 : numB (bs.drop (k' + 1)) < 16777216 := by
        have h1 := numB_lt (bs.drop (k' + 1))
        have h2 : (bs.drop (k' + 1)).length ≤ 3 := by rw [List.length_drop, hl.out]; omega
        have h3 : 256 ^ (bs.drop (k' + 1)).length ≤ 256 ^ 3 := Nat.pow_le_pow_right (by omega) h2
        omega
      have hx3 := (byOf bs k').toNat_lt
      unfold byV at hc
      rw [show ((k' + 1 : Nat) : Int) - 1 = (k' : Int) by omega]
      obtain ⟨x, hx⟩ : ∃ x, (byOf bs k').toNat = x := ⟨_, rfl⟩
      obtain ⟨y, hy⟩ : ∃ y, numB (bs.drop (k' + 1)) = y := ⟨_, rfl⟩
      rw [hx] at hc HV hx3
      rw [hy] at HV ha3 ⊢
      have hkn : (k' : Int) < (n : Int) := by omega
      have hk0 : (0 : Int) ≤ (k' : Int) := by omega
      clear hx hy hlt hw1
      have HOR := Lib.hid (i64_or_join (y * 256) x (by omega) hx3 (by omega))
      go_wp2_with fail
      go_roundw
      case rel => exact ⟨k', by omega, by go_num, by rw [HV.out]; rw [show ((y : Int) * 256) = ((y * 256 : Nat) : Int) by omega, HOR.out]; congr 1; omega, trivial⟩
      case measure => simp [intOf]
    · obtain rfl : k = 0 := by omega
      go_wp2_with fail
      go_ret
      exact ⟨rfl, rfl⟩
set_option maxHeartbeats 1600000 in
theorem RNUMBER_any (A : Option Addr) (n c : Nat) (bs : By) (hn : n ≤ 4) (w : World) (B : Nat) (hB : B ≤ w.heap.size) (hh : Hid (BysAt w B A n bs)) :
    Calls Tryd.prog 28 #[.slice A n c] w fun e w' => e = .returned (.int .i64 (numB bs)) ∧ w = w' := by
  have hl := Lib.hid hh.out.1
  have hw1 : wrap64 ((n : Int) - 1) = (n : Int) - 1 := IntWalk.wrap64_in _ ⟨by omega, by omega⟩
  go_enter Tryd.func28, Tryd.ntmps28
  go_wp2_with fail
  go_loopw [3, 4] (fun v i wr => ∃ k : Nat, k ≤ n ∧ i = .int .i64 ((k : Int) - 1) ∧ v = .int .i64 (numB (bs.drop k)) ∧ wr = w) (fun _ i _ => (intOf i + 1).toNat)
  case atStart => exact ⟨n, Nat.le_refl _, rfl, by rw [← hl.out, List.drop_length]; rfl, rfl⟩
  case round =>
    obtain ⟨k, hk, rfl, rfl, rfl⟩ := hrel
    by_cases hlt : 0 < k
    · obtain ⟨k', rfl⟩ : ∃ k', k = k' + 1 := ⟨k - 1, by omega⟩
      obtain ⟨b, o, rfl, hb, hc⟩ := hh.out.2 k' (by omega)
      have HV : Hid (numB (bs.drop k') = (byOf bs k').toNat + 256 * numB (bs.drop (k' + 1))) := by show _ = _; rw [drop_by (by rw [hl.out]; omega)]; rfl
      have ha3 : numB (bs.drop (k' + 1)) < 16777216 := by
        have h1 := numB_lt (bs.drop (k' + 1))
        have h2 : (bs.drop (k' + 1)).length ≤ 3 := by rw [List.length_drop, hl.out]; omega
        have h3 : 256 ^ (bs.drop (k' + 1)).length ≤ 256 ^ 3 := Nat.pow_le_pow_right (by omega) h2
        omega
      have hx3 := (byOf bs k').toNat_lt
      unfold byV at hc
      rw [show ((k' + 1 : Nat) : Int) - 1 = (k' : Int) by omega]
      obtain ⟨x, hx⟩ : ∃ x, (byOf bs k').toNat = x := ⟨_, rfl⟩
      obtain ⟨y, hy⟩ : ∃ y, numB (bs.drop (k' + 1)) = y := ⟨_, rfl⟩
      rw [hx] at hc HV hx3
      rw [hy] at HV ha3 ⊢
      have hkn : (k' : Int) < (n : Int) := by omega
      have hk0 : (0 : Int) ≤ (k' : Int) := by omega
      clear hx hy hlt hw1
      skip
      go_wp2_with fail
      go_roundw
      case rel => exact ⟨k', by omega, by go_num, by rw [HV.out]; congr 1; omega, trivial⟩
      case measure => simp [intOf]
    · obtain rfl : k = 0 := by omega
      go_wp2_with fail
      go_ret
      exact ⟨rfl, rfl⟩
end Go.Proofs.YtlnjildkdmeflaaDoor
