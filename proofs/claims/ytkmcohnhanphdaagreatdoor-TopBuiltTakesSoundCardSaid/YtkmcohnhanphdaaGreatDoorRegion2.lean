/- A region that draws its order, whose last operations (from number n on) wait for all loads among the first n, but not for what looks at no memory: what yields in every world is taken first at any time, what yields in a world that meets S is taken first where the last operations wait for it. (After the library's Orders and OrdersHeld.) No program in sight. -/
import Derived.Test.YtkmcohnhanphdaaGreatDoorRegion
set_option linter.unusedSimpArgs false
set_option linter.unusedVariables false
namespace Go.Dw
open Go.RowKit
section
variable {P : Program} {ops : Array Oper} {Q : Exit → Act → World → Prop} {md : Region.Mode} {S : World → Prop}
def wpAnyT (P : Program) (md : Region.Mode) (ops : Array Oper) (Q : Exit → Act → World → Prop) (S : World → Prop) (n : Nat) : Nat → Array Bool → Act → World → Prop
  | 0, listed, a, w => wpAny P md ops Q 0 listed a w
  | f + 1, listed, a, w =>
    (Region.ready md ops listed = [] → Q .normal a w) ∧
    ∀ i ∈ Region.ready md ops listed, (i < n → wpOp P ops Q i (fun a' w' => S w' ∧ wpAnyT P md ops Q S n f (listed.setIfInBounds i true) a' w') a w) ∧ (n ≤ i → wpOp P ops Q i (wpAny P md ops Q f (listed.setIfInBounds i true)) a w)
theorem wpAnyT_any {n : Nat} : ∀ {f : Nat} {listed : Array Bool} {a : Act} {w : World}, wpAnyT P md ops Q S n f listed a w → wpAny P md ops Q f listed a w
  | 0, _, _, _, h => h
  | f + 1, listed, a, w, h => ⟨h.1, fun i hi => by
    rcases Nat.lt_or_ge i n with hin | hin
    · exact wpOp_mono (fun a' w' h' => wpAnyT_any h'.2) ((h.2 i hi).1 hin)
    · exact (h.2 i hi).2 hin⟩
theorem wpAnyT_of_any {n : Nat} : ∀ {f : Nat} {listed : Array Bool} {a : Act} {w : World}, (∀ j ∈ Region.ready md ops listed, n ≤ j) → wpAny P md ops Q f listed a w → wpAnyT P md ops Q S n f listed a w
  | 0, _, _, _, _, h => h
  | f + 1, listed, a, w, hr, h => ⟨h.1, fun i hi => ⟨fun hin => by have := hr i hi; omega, fun _ => h.2 i hi⟩⟩
/-- every operation from number n on waits for i -/
def waitsB (md : Region.Mode) (ops : Array Oper) (n i : Nat) : Bool :=
  (List.range ops.size).all fun j => decide (j < n) || (match ops[j]? with | none => true | some o => o.after.toList.any fun e => Region.binds md e && e.on == i)
theorem waitsB_spec {n i : Nat} (h : waitsB md ops n i = true) {listed : Array Bool} {j : Nat} (hj : j ∈ Region.ready md ops listed) (hn : n ≤ j) : listed.getD i false = true := by
  obtain ⟨_, o, ho, hall⟩ := mem_ready.1 hj
  have hlt : j < ops.size := (Array.getElem?_eq_some_iff.1 ho).1
  have h1 := List.all_eq_true.1 h j (List.mem_range.2 hlt)
  rw [ho] at h1
  simp only [Bool.or_eq_true, decide_eq_true_eq, List.any_eq_true, Bool.and_eq_true, beq_iff_eq] at h1
  rcases h1 with h1 | ⟨e, he, hb, hon⟩
  · omega
  · rw [← hon]; exact hall e (by simpa using he) hb
theorem wpAnyT_first {n i : Nat} {oi : Oper} {v : Value} (hi : ops[i]? = some oi) (hsel : ∀ (j : Nat) (o : Oper) cs b, ops[j]? = some o → o.op ≠ .select cs b)
    (hQ : ∀ c a w, Q (.panic c) (a.put oi.dst v) w → Q (.panic c) a w) (hin : i < n) :
    ∀ (f : Nat) (listed : Array Bool) (a : Act) (w : World),
      (∀ j oj, ops[j]? = some oj → j ≠ i → listed.getD j true = false → (∀ e ∈ oj.after, Region.binds md e = true → e.on ≠ i) → oi.apart ops oj = true) →
      i ∈ Region.ready md ops listed → (Yields P ops oi v a ∨ (YieldsIf P ops S oi v a ∧ waitsB md ops n i = true)) → S w →
      wpAnyT P md ops Q S n f (listed.setIfInBounds i true) (a.put oi.dst v) w → wpAnyT P md ops Q S n (f + 1) listed a w := by
  intro f
  induction f with
  | zero =>
    intro listed a w _ hr hy hS H
    have hyI : YieldsIf P ops S oi v a := by rcases hy with h | h; exact h.yieldsIf; exact h.1
    refine ⟨fun h => (by rw [h] at hr; cases hr), fun j hj => ?_⟩
    by_cases hji : j = i
    · subst hji; exact ⟨fun _ => hyI.wpOp hi hS ⟨hS, H⟩, fun h => by omega⟩
    · have h1 := ready_mono hj hji
      rw [H.1] at h1; cases h1
  | succ f ih =>
    intro listed a w hfree hr hy hS H
    have hyI : YieldsIf P ops S oi v a := by rcases hy with h | h; exact h.yieldsIf; exact h.1
    have hun := (mem_ready.1 hr).1
    refine ⟨fun h => (by rw [h] at hr; cases hr), fun j hj => ?_⟩
    by_cases hji : j = i
    · subst hji; exact ⟨fun _ => hyI.wpOp hi hS ⟨hS, H⟩, fun h => by omega⟩
    have h1 := H.2 j (ready_mono hj hji)
    obtain ⟨hjun, oj, hoj, hall⟩ := mem_ready.1 hj
    have hnot : ∀ e ∈ oj.after, Region.binds md e = true → e.on ≠ i := fun e he hb heq => by
      have h1 := hall e he hb
      rw [heq, getD_both hun] at h1
      cases h1
    have hfree' : ∀ k ok, ops[k]? = some ok → k ≠ i → (listed.setIfInBounds j true).getD k true = false →
        (∀ e ∈ ok.after, Region.binds md e = true → e.on ≠ i) → oi.apart ops ok = true := fun k ok hk hki hun hno => by
      refine hfree k ok hk hki ?_ hno
      by_cases hjk : j = k
      · subst hjk; exact hjun
      · rw [getD_set_ne true hjk] at hun; exact hun
    have hap := hfree j oj hoj hji hjun hnot
    refine ⟨fun hjn => ?_, fun hjn => ?_⟩
    · rcases hy with hy | ⟨hy, hw⟩
      · have h2 := wpOp_put hoj hap (fun cs b => hsel i oi cs b hi) (fun cs b => hsel j oj cs b hoj) hQ hy (h1.1 hjn)
        refine wpOp_mono (fun a' w' h3 => ⟨h3.2.1, ih (listed.setIfInBounds j true) a' w' hfree' (ready_mono hr (Ne.symm hji)) (.inl h3.1) h3.2.1 ?_⟩) h2
        rw [Array.setIfInBounds_comm _ _ hji]
        exact h3.2.2
      · have h2 := wpOp_putIf hoj hap (fun cs b => hsel i oi cs b hi) (fun cs b => hsel j oj cs b hoj) hQ hy (h1.1 hjn)
        refine wpOp_mono (fun a' w' h3 => ⟨h3.2.1, ih (listed.setIfInBounds j true) a' w' hfree' (ready_mono hr (Ne.symm hji)) (.inr ⟨h3.1, hw⟩) h3.2.1 ?_⟩) h2
        rw [Array.setIfInBounds_comm _ _ hji]
        exact h3.2.2
    · rcases hy with hy | ⟨_, hw⟩
      · have h2 := wpOp_put hoj hap (fun cs b => hsel i oi cs b hi) (fun cs b => hsel j oj cs b hoj) hQ hy (h1.2 hjn)
        refine wpOp_mono (fun a' w' h3 => wpAny_first hi hsel hQ f (listed.setIfInBounds j true) a' w' hfree' (ready_mono hr (Ne.symm hji)) h3.1 ?_) h2
        rw [Array.setIfInBounds_comm _ _ hji]
        exact h3.2
      · have := waitsB_spec hw hj hjn
        rw [getD_both hun] at this
        cases this
/-- the head of the region from here on -/
def HT (P : Program) (ops : Array Oper) (Q : Exit → Act → World → Prop) (S : World → Prop) (n f : Nat) (listed : Array Bool) (a : Act) (w : World) : Prop :=
  Region.noSelect ops = true → wpAnyT P .any ops Q S n f listed a w
theorem HT.take {n f i : Nat} {oi : Oper} {v : Value} {listed : Array Bool} {a : Act} {w : World} (hi : ops[i]? = some oi) (hf : Region.free .any ops listed i = true) (hr : (Region.ready .any ops listed).contains i = true) (hin : i < n)
    (hQ : ∀ c a w, Q (.panic c) (a.put oi.dst v) w → Q (.panic c) a w) (hy : Yields P ops oi v a) (hS : S w)
    (h : HT P ops Q S n f (listed.setIfInBounds i true) (a.put oi.dst v) w) : HT P ops Q S n (f + 1) listed a w := fun hb =>
  wpAnyT_first hi (Region.noSelect_spec hb) hQ hin f listed a w (Region.free_spec hi hf) (by simpa using hr) (.inl hy) hS (h hb)
theorem HT.load {n f i : Nat} {oi : Oper} {v : Value} {listed : Array Bool} {a : Act} {w : World} (hi : ops[i]? = some oi) (hf : Region.free .any ops listed i = true) (hr : (Region.ready .any ops listed).contains i = true) (hin : i < n)
    (hQ : ∀ c a w, Q (.panic c) (a.put oi.dst v) w → Q (.panic c) a w) (hw : waitsB .any ops n i = true) (hy : YieldsIf P ops S oi v a) (hS : S w)
    (h : HT P ops Q S n f (listed.setIfInBounds i true) (a.put oi.dst v) w) : HT P ops Q S n (f + 1) listed a w := fun hb =>
  wpAnyT_first hi (Region.noSelect_spec hb) hQ hin f listed a w (Region.free_spec hi hf) (by simpa using hr) (.inr ⟨hy, hw⟩) hS (h hb)
theorem HT.one {n f i : Nat} {o : Oper} {listed : Array Bool} {a : Act} {w : World} (hi : ops[i]? = some o) (hr : Region.ready .any ops listed = [i]) (hin : i < n) (hw : Region.wanted o (yielded ops a.tmps) = true)
    (h : ∀ K : Act → World → Prop, Hid (∀ a w, S w → HT P ops Q S n f (listed.setIfInBounds i true) a w → K a w) → o.wp P a w K Q) : HT P ops Q S n (f + 1) listed a w := fun hb => by
  refine ⟨fun h0 => (by rw [hr] at h0; cases h0), fun j hj => ?_⟩
  have hij : j = i := by rw [hr] at hj; simpa using hj
  subst hij
  refine ⟨fun _ => ?_, fun h => by omega⟩
  unfold wpOp
  simp only [hi, hw, if_true]
  exact .inl (h _ (fun a' w' hS hH => ⟨hS, hH hb⟩))
theorem HT.done {n : Nat} {l : List Oper} {listed : Array Bool} {a : Act} {w : World} (hs : Region.seqB .any l.toArray (l.length - n) n listed = true) (h : wpList P l.toArray Q (l.drop n) a w) : HT P l.toArray Q S n (l.length - n) listed a w := fun _ => by
  refine wpAnyT_of_any (fun j hj => seqB_ready hs j hj) ?_
  have := wpAny_of_seq (md := .any) (Q' := Q) (l.drop n) n listed a w (fun j => by simp [List.getElem?_drop]) (by simpa using hs) h
  simpa using this
theorem wp_region_text {id : Nat} {a : Act} {w : World} {l : List Oper} (n : Nat) (S : World → Prop) (hm : P.follows .mixedOrders = true) (hB : Region.noSelect l.toArray = true)
    (h : HT P l.toArray Q S n l.length (Array.replicate l.length false) a w.drew) : (Code.region id l.toArray true).wp P Q a w := by
  refine wp_region_any hm ?_
  have := wpAnyT_any (h hB)
  simpa using this
end
end Go.Dw
