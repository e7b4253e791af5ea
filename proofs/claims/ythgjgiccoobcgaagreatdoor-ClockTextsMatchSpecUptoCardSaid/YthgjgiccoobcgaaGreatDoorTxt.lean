/- Positions as texts: what Show and Read give, in plain words. -/
import Derived.Test.YthgjgiccoobcgaaGreatDoorBar
import Derived.Test.YthgjgiccoobcgaaGreatDoorZb
import Derived.Lib.SplitLaws
set_option linter.unusedSimpArgs false
set_option linter.unusedVariables false
namespace Go.Proofs.YthgjgiccoobcgaaGreatDoor
open Go.RowKit Go.Dw
/-- a number below 100 with two digits -/
def two2 (n : Nat) : List UInt8 := [UInt8.ofNat (48 + n / 10), UInt8.ofNat (48 + n % 10)]
/-- two digits -/
def PairD (l : List UInt8) : Prop := l.length = 2 ∧ AllDig l
noncomputable def pairD (l : List UInt8) : Bool := @decide (PairD l) (Classical.propDecidable _)
theorem pairD_true {l : List UInt8} (h : PairD l) : pairD l = true := @decide_eq_true _ (Classical.propDecidable _) h
theorem pairD_false {l : List UInt8} (h : ¬ PairD l) : pairD l = false := @decide_eq_false _ (Classical.propDecidable _) h
def sgnL (t : Int) : List UInt8 := if t < 0 then [45] else []
def hmsL (a : Nat) : List UInt8 := Lib.decDigits (a / 3600) ++ 58 :: (two2 (a / 60 % 60) ++ 58 :: two2 (a % 60))
def showL (u rate : Nat) : List UInt8 := hmsL (u / rate) ++ 43 :: Lib.decDigits (u % rate)
/-- the text of a position -/
def showTxt (t : Int) (rate : Nat) : List UInt8 := sgnL t ++ showL t.natAbs rate
/-- Show -/
def showS (t rate : Int) : List UInt8 × Int := if okPos t = false ∨ okRate rate = false then ([], 1) else (showTxt t rate.toNat, 0)
/-- what Read gives -/
def ReadP (rate : Nat) (txt : List UInt8) (z : Int × Int) : Prop := (z.2 = 0 ∧ okPos z.1 = true ∧ showTxt z.1 rate = txt) ∨ (z = (0, 10) ∧ ∀ t : Int, okPos t = true → showTxt t rate ≠ txt)
/-- Read -/
def ReadS (rate : Int) (txt : List UInt8) (z : Int × Int) : Prop := (okRate rate = false → z = (0, 1)) ∧ (okRate rate = true → ReadP rate.toNat txt z)
theorem dig_of {k : Nat} (h : k < 10) : 48 ≤ (UInt8.ofNat (48 + k)).toNat ∧ (UInt8.ofNat (48 + k)).toNat ≤ 57 ∧ (UInt8.ofNat (48 + k)).toNat - 48 = k := by
  have e : (UInt8.ofNat (48 + k)).toNat = 48 + k := by simp; omega
  rw [e]; omega
theorem two2_pair {n : Nat} (h : n < 100) : PairD (two2 n) := by
  refine ⟨rfl, fun c hc => ?_⟩
  have h1 := dig_of (k := n / 10) (by omega)
  have h2 := dig_of (k := n % 10) (by omega)
  unfold two2 at hc
  rcases List.mem_cons.1 hc with rfl | hc
  · exact ⟨h1.1, h1.2.1⟩
  · rcases List.mem_cons.1 hc with rfl | hc
    · exact ⟨h2.1, h2.2.1⟩
    · exact absurd hc (by simp)
theorem two2_val {n : Nat} (h : n < 100) : decV (two2 n) = n := by
  have h1 := dig_of (k := n / 10) (by omega)
  have h2 := dig_of (k := n % 10) (by omega)
  have e := decV_snoc [UInt8.ofNat (48 + n / 10)] (UInt8.ofNat (48 + n % 10))
  have e1 := decV_snoc [] (UInt8.ofNat (48 + n / 10))
  rw [List.nil_append] at e1
  rw [e1, decV_nil] at e
  show decV ([UInt8.ofNat (48 + n / 10)] ++ [UInt8.ofNat (48 + n % 10)]) = n
  rw [e]; omega
theorem dig_no {l : List UInt8} (h : AllDig l) {c : UInt8} (hc : c.toNat < 48 ∨ 57 < c.toNat) : c ∉ l := fun hm => by
  have := h c hm
  omega
theorem two2_eq {n : Nat} (h : n < 100) : two2 n = if n < 10 then 48 :: Lib.decDigits n else Lib.decDigits n := by
  by_cases h1 : n < 10
  · rw [if_pos h1]
    unfold two2
    rw [Lib.decDigits, dif_pos h1, Nat.div_eq_of_lt h1, Nat.mod_eq_of_lt h1]
    rfl
  · rw [if_neg h1]
    unfold two2
    rw [Lib.decDigits, dif_neg h1, Lib.decDigits, dif_pos (by omega)]
    rfl
theorem cut_at {d r : List UInt8} {c : UInt8} (h : c ∉ d) : Lib.cut (d ++ c :: r) [c] = (d, r, true) := by
  unfold Lib.cut
  rw [index_at h, if_pos (by omega)]
  simp
theorem hms_no43 (a : Nat) : (43 : UInt8) ∉ hmsL a := by
  have h1 := two2_pair (n := a / 60 % 60) (by omega)
  have h2 := two2_pair (n := a % 60) (by omega)
  unfold hmsL
  rw [List.mem_append, List.mem_cons, List.mem_append, List.mem_cons]
  rintro (h | h | h | h | h)
  · exact dig_no (allDig_decDigits _) (.inl (by decide)) h
  · exact absurd h (by decide)
  · exact dig_no h1.2 (.inl (by decide)) h
  · exact absurd h (by decide)
  · exact dig_no h2.2 (.inl (by decide)) h
theorem hms_count (a : Nat) : Lib.count (hmsL a) [58] = 2 := by
  unfold hmsL
  rw [count_cons (dig_no (allDig_decDigits _) (.inr (by decide))), count_cons (dig_no (two2_pair (by omega)).2 (.inr (by decide))), count_no (dig_no (two2_pair (by omega)).2 (.inr (by decide)))]
theorem hms_split (a : Nat) : Lib.splitK [58] 0 2 (hmsL a) = [Lib.decDigits (a / 3600), two2 (a / 60 % 60), two2 (a % 60)] := by
  unfold hmsL
  rw [split_cons (dig_no (allDig_decDigits _) (.inr (by decide))), split_cons (dig_no (two2_pair (by omega)).2 (.inr (by decide)))]
  rfl
theorem showL_noneg (u rate : Nat) : Lib.hasPrefix (showL u rate) [45] = false := by
  unfold showL hmsL
  have hd := allDig_decDigits (u / rate / 3600)
  have hg := dec_good (u / rate / 3600)
  cases h : Lib.decDigits (u / rate / 3600) with
  | nil => rcases hg.2 with e | ⟨c, r, e, _⟩ <;> rw [h] at e <;> exact absurd e (by simp)
  | cons c r =>
    rw [h] at hd
    have := hd c (by simp)
    show (([45] : List UInt8).isPrefixOf _) = false
    simp only [List.cons_append, List.isPrefixOf, List.append_assoc]
    rw [Bool.and_true, beq_eq_false_iff_ne]
    rintro rfl
    exact absurd this.1 (by decide)
theorem show_prefix (t : Int) (rate : Nat) : Lib.hasPrefix (showTxt t rate) [45] = decide (t < 0) ∧ Lib.trimPrefix (showTxt t rate) [45] = showL t.natAbs rate := by
  unfold showTxt sgnL Lib.trimPrefix
  by_cases h : t < 0
  · rw [if_pos h, decide_eq_true h]
    have e : Lib.hasPrefix ([45] ++ showL t.natAbs rate) [45] = true := by
      show (([45] : List UInt8).isPrefixOf _) = true
      simp [List.isPrefixOf]
    rw [e]
    exact ⟨rfl, by simp⟩
  · rw [if_neg h, decide_eq_false h, List.nil_append, showL_noneg]
    exact ⟨rfl, by simp⟩
theorem show_cut (u rate : Nat) : Lib.cut (showL u rate) [43] = (hmsL (u / rate), Lib.decDigits (u % rate), true) := cut_at (hms_no43 _)
theorem hms_val {u rate : Nat} (hr : 0 < rate) : ((u / rate / 3600 * 60 + u / rate / 60 % 60) * 60 + u / rate % 60) * rate + u % rate = u := by
  have h1 : (u / rate / 3600 * 60 + u / rate / 60 % 60) * 60 + u / rate % 60 = u / rate := by omega
  rw [h1]
  have := Nat.div_add_mod u rate
  rw [Nat.mul_comm]; exact this
theorem show_len {t : Int} {rate : Nat} (ht : okPos t = true) (h1 : 1 ≤ rate) (h2 : rate ≤ 1000000) :
    (showTxt t rate).length ≤ 60 ∧ (Lib.decDigits (t.natAbs / rate / 3600)).length ≤ 11 ∧ (Lib.decDigits (t.natAbs % rate)).length ≤ 7 := by
  have hp := okPos_le ht
  have ha : t.natAbs ≤ 10000000000000 := by omega
  have hd : t.natAbs / rate ≤ t.natAbs := Nat.div_le_self _ _
  have hm : t.natAbs % rate < rate := Nat.mod_lt _ (by omega)
  have e1 := dec_len 11 (t.natAbs / rate / 3600) (by omega) (by omega)
  have e2 := dec_len 7 (t.natAbs % rate) (by omega) (by omega)
  refine ⟨?_, e1, e2⟩
  have hs : (sgnL t).length ≤ 1 := by unfold sgnL; split <;> simp
  unfold showTxt showL hmsL two2
  simp only [List.length_append, List.length_cons, List.length_nil]
  omega
/-- the parts of a text that Show writes -/
structure ReadsAs (rate : Nat) (txt : List UInt8) (ng ok : Bool) (left smp : List UInt8) (t : Int) : Prop where
  ok : ok = true
  few : txt.length ≤ 60
  cnt : Lib.count left [58] = 2
  gs : GoodD smp
  ls : smp.length ≤ 7
  parts : ∀ q0 q1 q2, Lib.splitK [58] 0 2 left = [q0, q1, q2] → (GoodD q0 ∧ q0.length ≤ 11) ∧ PairD q1 ∧ PairD q2 ∧
    (if ng then -((((decV q0 * 60 + decV q1) * 60 + decV q2) * rate + decV smp : Nat) : Int) else ((((decV q0 * 60 + decV q1) * 60 + decV q2) * rate + decV smp : Nat) : Int)) = t
theorem read_parts {t : Int} {rate : Nat} {txt left smp : List UInt8} {ok : Bool} (h1 : 1 ≤ rate) (h2 : rate ≤ 1000000) (hc : Lib.cut (Lib.trimPrefix txt [45]) [43] = (left, smp, ok)) (ht : okPos t = true) (e : showTxt t rate = txt) :
    ReadsAs rate txt (Lib.hasPrefix txt [45]) ok left smp t := by
  subst e
  obtain ⟨hp1, hp2⟩ := show_prefix t rate
  rw [hp2, show_cut] at hc
  injection hc with e1 hc
  injection hc with e2 e3
  subst e1 e2 e3
  obtain ⟨l1, l2, l3⟩ := show_len ht h1 h2
  refine ⟨rfl, l1, hms_count _, dec_good _, l3, fun q0 q1 q2 hq => ?_⟩
  rw [hms_split] at hq
  injection hq with e1 hq
  injection hq with e2 hq
  injection hq with e3 hq
  subst e1 e2 e3
  refine ⟨⟨dec_good _, l2⟩, two2_pair (by omega), two2_pair (by omega), ?_⟩
  rw [hp1, decV_decDigits, decV_decDigits, two2_val (by omega), two2_val (by omega), hms_val h1]
  by_cases h : t < 0
  · rw [if_pos (by simpa using h)]; omega
  · rw [if_neg (by simpa using h)]; omega
theorem showTxt_inj {t t' : Int} {rate : Nat} (h1 : 1 ≤ rate) (h2 : rate ≤ 1000000) (ht : okPos t = true) (ht' : okPos t' = true) (e : showTxt t rate = showTxt t' rate) : t = t' := by
  have a := read_parts h1 h2 rfl ht e
  have b := read_parts h1 h2 rfl ht' rfl
  have hs : ∃ q0 q1 q2, Lib.splitK [58] 0 2 (Lib.cut (Lib.trimPrefix (showTxt t' rate) [45]) [43]).1 = [q0, q1, q2] := by
    rw [(show_prefix t' rate).2, show_cut]
    exact ⟨_, _, _, hms_split _⟩
  obtain ⟨q0, q1, q2, hs⟩ := hs
  exact (a.parts q0 q1 q2 hs).2.2.2.symm.trans (b.parts q0 q1 q2 hs).2.2.2
theorem readP_uniq {rate : Nat} (h1 : 1 ≤ rate) (h2 : rate ≤ 1000000) {txt : List UInt8} {z z' : Int × Int} (a : ReadP rate txt z) (b : ReadP rate txt z') : z = z' := by
  rcases a with ⟨a1, a2, a3⟩ | ⟨a1, a2⟩ <;> rcases b with ⟨b1, b2, b3⟩ | ⟨b1, b2⟩
  · exact Prod.ext (showTxt_inj h1 h2 a2 b2 (a3.trans b3.symm)) (a1.trans b1.symm)
  · exact absurd a3 (b2 _ a2)
  · exact absurd b3 (a2 _ b2)
  · rw [a1, b1]
theorem rate_nat {rate : Int} (h : okRate rate = true) : 1 ≤ rate.toNat ∧ rate.toNat ≤ 1000000 ∧ (rate.toNat : Int) = rate := by
  have := okRate_le h; omega
theorem readS_uniq {rate : Int} {txt : List UInt8} {z z' : Int × Int} (a : ReadS rate txt z) (b : ReadS rate txt z') : z = z' := by
  cases h : okRate rate with
  | false => rw [a.1 h, b.1 h]
  | true => exact readP_uniq (rate_nat h).1 (rate_nat h).2.1 (a.2 h) (b.2 h)
theorem showS_ok {t rate : Int} {txt : List UInt8} (h : showS t rate = (txt, 0)) : okPos t = true ∧ okRate rate = true ∧ showTxt t rate.toNat = txt := by
  unfold showS at h
  by_cases h1 : okPos t = false ∨ okRate rate = false
  · rw [if_pos h1] at h; injection h with _ h; exact absurd h (by decide)
  · rw [if_neg h1] at h
    injection h with h _
    simp only [not_or, Bool.not_eq_false] at h1
    exact ⟨h1.1, h1.2, h⟩
theorem readS_show {t rate : Int} {txt : List UInt8} (h : showS t rate = (txt, 0)) {z : Int × Int} (hz : ReadS rate txt z) : z = (t, 0) := by
  obtain ⟨h1, h2, h3⟩ := showS_ok h
  exact readS_uniq hz ⟨fun e => absurd e (by rw [h2]; decide), fun _ => .inl ⟨rfl, h1, h3⟩⟩
theorem show_readS {n rate : Int} {txt : List UInt8} (hz : ReadS rate txt (n, 0)) : showS n rate = (txt, 0) := by
  cases h : okRate rate with
  | false => have := hz.1 h; injection this with _ e; exact absurd e (by decide)
  | true =>
    rcases hz.2 h with ⟨a1, a2, a3⟩ | ⟨a1, a2⟩
    · unfold showS
      dsimp only at a2 a3
      rw [if_neg (by simp [a2, h]), a3]
    · injection a1 with _ a1; exact absurd a1 (by decide)
theorem readS_err {rate : Int} {z : Int × Int} {txt : List UInt8} (hz : ReadS rate txt z) (h : z.2 ≠ 0) : z.1 = 0 := by
  cases h1 : okRate rate with
  | false => rw [hz.1 h1]
  | true =>
    rcases hz.2 h1 with ⟨a1, _⟩ | ⟨a1, _⟩
    · exact absurd a1 h
    · rw [a1]
theorem showS_len {t rate : Int} {txt : List UInt8} (h : showS t rate = (txt, 0)) : txt.length ≤ 60 := by
  obtain ⟨h1, h2, h3⟩ := showS_ok h
  rw [← h3]
  exact (show_len h1 (rate_nat h2).1 (rate_nat h2).2.1).1
end Go.Proofs.YthgjgiccoobcgaaGreatDoor
