/- Takes; match.checkTakes. -/
import Derived.Test.YtkmcohnhanphdaaGreatDoorVa
import Derived.Deep.QuietTactic
import Derived.Test.YtkmcohnhanphdaaGreatDoorWa
import Derived.Test.YtkmcohnhanphdaaGreatDoorWd
set_option linter.unusedSimpArgs false
set_option linter.unusedVariables false
namespace Go.Proofs.YtkmcohnhanphdaaGreatDoor
open Go.RowKit Go.Dw
structure Tk where
  media : ByteArray
  rate : Int
  chans : Int
  starts : List Int
def tk0 : Tk := ⟨⟨#[]⟩, 0, 0, []⟩
def tkOf (l : List Tk) (k : Nat) : Tk := l.getD k tk0
end Go.Proofs.YtkmcohnhanphdaaGreatDoor
/- What is rendered, in plain words: factors, sums, samples. -/
namespace Go.Proofs.YtkmcohnhanphdaaGreatDoor
open Go.RowKit Go.Dw
structure Md where
  name : ByteArray
  rate : Int
  xss : List (List Int)
def md0 : Md := ⟨⟨#[]⟩, 0, []⟩
def mdOf (l : List Md) (k : Nat) : Md := l.getD k md0
theorem md_mem {l : List Md} {k : Nat} (hk : k < l.length) : mdOf l k ∈ l := by simp [mdOf, List.getD, List.getElem?_eq_getElem hk]
def findM (l : List Md) (s : ByteArray) : Option Md := l.find? (fun m => decide (m.name = s))
def sndOf (l : List Md) (s : ByteArray) : List (List Int) := match findM l s with
  | some m => m.xss
  | none => []
def trackOf (l : List Md) (s : ByteArray) (ch : Int) : List Int := rowOf (sndOf l s) ch.toNat
def ptV (p : Pt) : Rat := valQ p.num p.den
def envK (l : List Pt) (i : Int) : Nat := l.countP (fun p => decide (p.at_ < i))
def envV (l : List Pt) (i : Int) : Rat :=
  if envK l i < l.length ∧ (ptOf l (envK l i)).at_ = i then ptV (ptOf l (envK l i))
  else if envK l i = 0 then ptV (ptOf l 0)
  else if envK l i = l.length then ptV (ptOf l (envK l i - 1))
  else ptV (ptOf l (envK l i - 1)) + (ptV (ptOf l (envK l i)) - ptV (ptOf l (envK l i - 1))) * (((i - (ptOf l (envK l i - 1)).at_ : Int) : Rat) / (((ptOf l (envK l i)).at_ - (ptOf l (envK l i - 1)).at_ : Int) : Rat))
def conC (l : List Md) (t p : Int) (c : Cp) : Rat :=
  if c.track = t ∧ c.at_ ≤ p ∧ p < c.at_ + c.len ∧ c.from_ + (p - c.at_) < ((trackOf l c.media c.chan).length : Int) then envV c.env (p - c.at_) * ((elOf (trackOf l c.media c.chan) (c.from_ + (p - c.at_)).toNat : Int) : Rat) else 0
def mixC (l : List Md) (t p : Int) : List Cp → Rat
  | [] => 0
  | c :: r => conC l t p c + mixC l t p r
theorem mixC_append (l : List Md) (t p : Int) : ∀ (a b : List Cp), mixC l t p (a ++ b) = mixC l t p a + mixC l t p b
  | [], b => by show _ = 0 + _; rw [Rat.zero_add]; rfl
  | c :: a, b => by
    show conC l t p c + mixC l t p (a ++ b) = conC l t p c + mixC l t p a + mixC l t p b
    rw [mixC_append l t p a b, Rat.add_assoc]
theorem mixC_take {l : List Md} {t p : Int} {cs : List Cp} {k : Nat} (hk : k < cs.length) : mixC l t p (cs.take (k + 1)) = mixC l t p (cs.take k) + conC l t p (cpOf cs k) := by
  rw [take_cp hk, mixC_append]
  show _ + (conC l t p (cpOf cs k) + 0) = _
  rw [Rat.add_zero]
def endC (cs : List Cp) : Int := cs.foldl (fun n c => max n (c.at_ + c.len)) 0
theorem endC_take {cs : List Cp} {k : Nat} (hk : k < cs.length) : endC (cs.take (k + 1)) = max (endC (cs.take k)) ((cpOf cs k).at_ + (cpOf cs k).len) := by
  rw [take_cp hk]; unfold endC; rw [List.foldl_append]; rfl
theorem endC_ge : ∀ (cs : List Cp) (n : Int), n ≤ cs.foldl (fun n c => max n (c.at_ + c.len)) n
  | [], n => Int.le_refl _
  | c :: cs, n => Int.le_trans (by omega) (endC_ge cs (max n (c.at_ + c.len)))
theorem endC_nn (cs : List Cp) : 0 ≤ endC cs := endC_ge cs 0
theorem endC_take_le (cs : List Cp) (k : Nat) : endC (cs.take k) ≤ endC cs := by
  have h : cs.foldl (fun n c => max n (c.at_ + c.len)) 0 = (cs.drop k).foldl (fun n c => max n (c.at_ + c.len)) (endC (cs.take k)) := by
    unfold endC
    rw [← List.foldl_append, List.take_append_drop]
  show _ ≤ cs.foldl (fun n c => max n (c.at_ + c.len)) 0
  rw [h]
  exact endC_ge _ _
theorem endC_mem {cs : List Cp} {k : Nat} (hk : k < cs.length) : (cpOf cs k).at_ + (cpOf cs k).len ≤ endC cs := by
  have h1 := endC_take hk
  have h2 := endC_take_le cs (k + 1)
  omega
def renT (l : List Md) (cs : List Cp) (t : Int) : List Int := (List.range (endC cs).toNat).map fun p : Nat => clipV (nearQ (mixC l t p cs))
def renN1 (l : List Md) (cs : List Cp) (t : Int) : Int := ((List.range (endC cs).toNat).map fun p : Nat => clipN (nearQ (mixC l t p cs))).sum
def renS (l : List Md) (cs : List Cp) (tracks : Nat) : List (List Int) := (List.range tracks).map fun t : Nat => renT l cs t
def renN (l : List Md) (cs : List Cp) (tracks : Nat) : Int := ((List.range tracks).map fun t : Nat => renN1 l cs t).sum
structure MediaOk (rate : Int) (l : List Md) (cs : List Cp) : Prop where
  few : l.length ≤ 100
  apart : ∀ i j, i < j → j < l.length → (mdOf l i).name ≠ (mdOf l j).name
  right : ∀ m ∈ l, m.rate = rate ∧ chkS rate m.xss = 0
  there : ∀ c ∈ cs, ∃ m ∈ l, m.name = c.media ∧ c.chan < (m.xss.length : Int)
theorem nearQ_int (x : Int) : nearQ (x : Rat) = x := by
  unfold nearQ
  show (if x < 0 then -(((x.natAbs * 2 + 1) / (1 * 2) : Nat) : Int) else (((x.natAbs * 2 + 1) / (1 * 2) : Nat) : Int)) = x
  split <;> omega
end Go.Proofs.YtkmcohnhanphdaaGreatDoor
/- What is built of takes without fades sounds as their pieces: plain. -/
namespace Go.Proofs.YtkmcohnhanphdaaGreatDoor
open Go.RowKit Go.Dw
def frm (l : List Tk) (takes : List Int) (i : Nat) : Int := elOf (tkOf l (elOf takes i).toNat).starts i
section
variable (md : List Md) (l : List Tk) (ch : Int)
end
end Go.Proofs.YtkmcohnhanphdaaGreatDoor
