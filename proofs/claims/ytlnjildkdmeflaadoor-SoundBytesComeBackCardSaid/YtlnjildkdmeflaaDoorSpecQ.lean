/- The plain functions of Chunks; cuts of rows of bytes, bytes as a string; rows of chunks of the call's own. -/
import Derived.Test.YtlnjildkdmeflaaDoorSpecP
import Derived.Laws.BytesString
set_option linter.unusedSimpArgs false
set_option linter.unusedVariables false
namespace Go.Proofs.YtlnjildkdmeflaaDoor
open Go.RowKit Go.Dw
def cutB (b : By) (p q : Nat) : By := (b.drop p).take (q - p)
def nextN (at_ m : Nat) : Nat := at_ + 8 + m + m % 2
def lenN (b : By) (at_ : Nat) : Nat := numB (cutB b (at_ + 4) (at_ + 8))
def chunkS (b : By) (at_ : Nat) : Option (Ck × Nat) :=
  if b.length - at_ < 8 ∨ nameB (cutB b at_ (at_ + 4)) = false then none
  else if b.length < nextN at_ (lenN b at_) ∨ (lenN b at_ % 2 = 1 ∧ byOf b (nextN at_ (lenN b at_) - 1) ≠ 0) then none
  else some ((cutB b at_ (at_ + 4), cutB b (at_ + 8) (at_ + 8 + lenN b at_)), nextN at_ (lenN b at_))
/-- the chunks from a place on, with the places at which they begin: fuel f -/
def plS (b : By) : Nat → List Ck → List Int → Nat → (List Ck × List Int) × Nat × Int
  | 0, _, _, _ => (([], []), 0, 0)
  | f + 1, acc, ps, at_ =>
    if at_ < b.length then
      if acc.length = 1000 then (([], []), 0, 2)
      else match chunkS b at_ with
        | none => (([], []), at_, 10)
        | some (c, nx) => plS b f (acc ++ [c]) (ps ++ [(at_ : Int)]) nx
    else ((acc, ps), 0, 0)
def placedS (b : By) : (List Ck × List Int) × Nat × Int := if 8000000 < b.length then (([], []), 0, 2) else plS b (b.length + 1) [] [] 0
theorem cutB_length {b : By} {p q : Nat} (hp : p ≤ q) (hq : q ≤ b.length) : (cutB b p q).length = q - p := by unfold cutB; simp; omega
theorem byOf_cut {b : By} {p q j : Nat} (hj : j < q - p) (hq : q ≤ b.length) : byOf (cutB b p q) j = byOf b (p + j) := by
  unfold byOf cutB
  simp [List.getD, hj]
theorem lenN_lt {b : By} {at_ : Nat} (h : at_ + 8 ≤ b.length) : lenN b at_ < 4294967296 := by
  unfold lenN
  have h1 := numB_lt (cutB b (at_ + 4) (at_ + 8))
  rw [cutB_length (by omega) h, show at_ + 8 - (at_ + 4) = 4 by omega] at h1
  exact h1
theorem cutA_flat {b o c p : Nat} (h : p < c) : cutA (some ⟨b, o, none⟩) c p = some ⟨b, o + p, none⟩ := by
  unfold cutA
  rw [if_neg (by omega)]
  simp only [Option.map_some, Addr.add]
  split <;> simp_all
theorem BysAt.cut {w : World} {B n c : Nat} {A : Option Addr} {bs : By} (h : BysAt w B A n bs) (hc : n ≤ c) {p q : Nat} (hp : p ≤ q) (hq : q ≤ n) : BysAt w B (cutA A c p) (q - p) (cutB bs p q) := by
  refine ⟨cutB_length hp (by rw [h.1]; exact hq), fun j hj => ?_⟩
  obtain ⟨b, o, rfl, hb, hx⟩ := h.2 (p + j) (by omega)
  refine ⟨b, o + p, cutA_flat (by omega), hb, ?_⟩
  rw [byOf_cut hj (by rw [h.1]; exact hq), Nat.add_assoc]
  exact hx
theorem run_cut_by (A : Option Addr) (n c p q : Nat) (hp : p ≤ q) (hq : q ≤ c) (W : World) :
    (Instr.slice 26 (.slice A n c) (some (.int .i64 p)) (some (.int .i64 q)) none).run Tryd.prog W = .ok (.slice (cutA A c p) (q - p) (c - p)) W := by
  obtain ⟨i1, e0, e1, e2, e3⟩ := info_parts byte_info
  exact run_cut 26 5 Tryd.underlying26 i1 e0 e2 A n c p q hp hq W
theorem fold_push : ∀ (bs : By) (r : ByteArray), (bs.map fun b => ((b.toNat : Nat) : Int)).foldl (fun r n => r.push (UInt8.ofNat n.toNat)) r = ⟨r.data ++ bs.toArray⟩
  | [], r => by cases r; simp
  | b :: bs, r => by
    rw [List.map_cons, List.foldl_cons, fold_push bs]
    have : UInt8.ofNat ((b.toNat : Nat) : Int).toNat = b := by simp
    rw [this]
    cases r
    simp [ByteArray.push]
theorem run_str_of {w : World} {B : Nat} {A : Option Addr} {n c : Nat} {bs : By} (h : BysAt w B A n bs) : (convert 26 9 (.slice A n c)).run Tryd.prog w = .ok (strOf bs) w := by
  rw [run_convert_bytes_string w 26 9 5 A n c Tryd.underlying26 Tryd.underlying5 Tryd.underlying9]
  cases A with
  | none =>
    have hn : n = 0 := by
      rcases Nat.eq_zero_or_pos n with h0 | h0
      · exact h0
      · obtain ⟨b, o, e, _⟩ := h.2 0 h0; cases e
    have hb : bs = [] := List.eq_nil_of_length_eq_zero (by rw [h.1, hn])
    subst hb
    rfl
  | some ad =>
    have hl : (loadCells ad n).run Tryd.prog w = .ok ((bs.map fun b => ((b.toNat : Nat) : Int)).map (Value.int .u8)).toArray w := by
      have := run_loadCells_list (P := Tryd.prog) (w := w) ad (bysC bs) (fun j u hj => by
        have hjl : j < n := by have := (List.getElem?_eq_some_iff.1 hj).1; rw [bysC_length, h.1] at this; exact this
        obtain ⟨ad', e, _, hc⟩ := h.reads.2 (by omega)
        injection e with e; subst e
        exact hc j u hj)
      rw [bysC_length, h.1] at this
      rw [this]
      simp [bysC, byV]
    rw [run_bytesToString w ad n c _ hl, fold_push]
    simp [strOf]
theorem wp_app_nil {o : Oper} {a : Act} {K : Act → World → Prop} {Q : Exit → Act → World → Prop} {w : World} (x : Operand)
    (ho : o.op = .call { callee := .builtin .append, args := #[.const (.slice none 0 0), x], argTypes := #[26, 26] }) (B : Nat) (A : Option Addr) (m c : Nat) (ys : By) (hx : a.eval x = .slice A m c) (hr : BysAt w B A m ys) (hle : m ≤ 140737488355328)
    (h : ∀ v' w', OwnBys w' w.heap.size v' ys → Below w.heap.size w w' → K (a.put o.dst v') w') : o.wp Tryd.prog a w K Q := by
  obtain ⟨i1, e0, e1, e2, e3⟩ := info_parts byte_info
  refine wp_append_any w (.const (.slice none 0 0)) x 26 ho w.heap.size 5 i1 _ 1 1 Tryd.underlying26 e0 e1 e2 e3 rfl (by omega) (.slice none 0 0) 0 [] rfl (World.ownsRow_nil _ _ _ _) B A m c (bysC ys) hx hr.reads (bysC_one ys) (by simp only [maxLen]; omega) (by omega) (Nat.le_refl _) ?_
  intro v' w' h1 h2 _
  refine h v' w' ?_ ((Below.refl _ w).grown h2 (Nat.le_refl _) (fun b e => by cases e))
  unfold OwnBys
  rw [List.nil_append, Nat.zero_add] at h1
  rw [hr.1]; exact h1
end Go.Proofs.YtlnjildkdmeflaaDoor
