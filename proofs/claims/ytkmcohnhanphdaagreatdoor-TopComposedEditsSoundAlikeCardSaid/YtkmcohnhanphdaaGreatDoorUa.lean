/- A region that draws its order, where two operations are ready (a call and an operation that makes memory): both ways. No program in sight. -/
import Derived.Test.YtkmcohnhanphdaaGreatDoorXa
set_option linter.unusedSimpArgs false
set_option linter.unusedVariables false
namespace Go.Dw
open Go.RowKit
section
variable {P : Program} {ops : Array Oper} {Q : Exit → Act → World → Prop} {S : World → Prop}
theorem HT.two {n f : Nat} (i j : Nat) {o o' : Oper} {listed : Array Bool} {a : Act} {w : World} (hi : ops[i]? = some o) (hj : ops[j]? = some o') (hr : Region.ready .any ops listed = [i, j]) (hin : i < n) (hjn : j < n) (hw : Region.wanted o (yielded ops a.tmps) = true) (hw' : Region.wanted o' (yielded ops a.tmps) = true)
    (h : ∀ K : Act → World → Prop, Hid (∀ a w, S w → HT P ops Q S n f (listed.setIfInBounds i true) a w → K a w) → o.wp P a w K Q)
    (h' : ∀ K : Act → World → Prop, Hid (∀ a w, S w → HT P ops Q S n f (listed.setIfInBounds j true) a w → K a w) → o'.wp P a w K Q) : HT P ops Q S n (f + 1) listed a w := fun hb => by
  refine ⟨fun h0 => (by rw [hr] at h0; cases h0), fun k hk => ?_⟩
  have hij : k = i ∨ k = j := by rw [hr] at hk; simpa using hk
  rcases hij with rfl | rfl
  · refine ⟨fun _ => ?_, fun h => by omega⟩
    unfold wpOp
    simp only [hi, hw, if_true]
    exact .inl (h _ (fun a' w' hS hH => ⟨hS, hH hb⟩))
  · refine ⟨fun _ => ?_, fun h => by omega⟩
    unfold wpOp
    simp only [hj, hw', if_true]
    exact .inl (h' _ (fun a' w' hS hH => ⟨hS, hH hb⟩))
end
end Go.Dw
/- A region that draws its order, where three operations are ready: all ways. No program in sight. -/
namespace Go.Dw
open Go.RowKit
section
variable {P : Program} {ops : Array Oper} {Q : Exit → Act → World → Prop} {S : World → Prop}
theorem HT.three {n f : Nat} (i j l : Nat) {o1 o2 o3 : Oper} {listed : Array Bool} {a : Act} {w : World} (hi : ops[i]? = some o1) (hj : ops[j]? = some o2) (hl : ops[l]? = some o3) (hr : Region.ready .any ops listed = [i, j, l]) (hin : i < n) (hjn : j < n) (hln : l < n)
    (hw : Region.wanted o1 (yielded ops a.tmps) = true) (hw' : Region.wanted o2 (yielded ops a.tmps) = true) (hw'' : Region.wanted o3 (yielded ops a.tmps) = true)
    (h : ∀ K : Act → World → Prop, Hid (∀ a w, S w → HT P ops Q S n f (listed.setIfInBounds i true) a w → K a w) → o1.wp P a w K Q)
    (h' : ∀ K : Act → World → Prop, Hid (∀ a w, S w → HT P ops Q S n f (listed.setIfInBounds j true) a w → K a w) → o2.wp P a w K Q)
    (h'' : ∀ K : Act → World → Prop, Hid (∀ a w, S w → HT P ops Q S n f (listed.setIfInBounds l true) a w → K a w) → o3.wp P a w K Q) : HT P ops Q S n (f + 1) listed a w := fun hb => by
  refine ⟨fun h0 => (by rw [hr] at h0; cases h0), fun k hk => ?_⟩
  have hij : k = i ∨ k = j ∨ k = l := by rw [hr] at hk; simpa using hk
  rcases hij with rfl | rfl | rfl
  · refine ⟨fun _ => ?_, fun h => by omega⟩
    unfold wpOp
    simp only [hi, hw, if_true]
    exact .inl (h _ (fun a' w' hS hH => ⟨hS, hH hb⟩))
  · refine ⟨fun _ => ?_, fun h => by omega⟩
    unfold wpOp
    simp only [hj, hw', if_true]
    exact .inl (h' _ (fun a' w' hS hH => ⟨hS, hH hb⟩))
  · refine ⟨fun _ => ?_, fun h => by omega⟩
    unfold wpOp
    simp only [hl, hw'', if_true]
    exact .inl (h'' _ (fun a' w' hS hH => ⟨hS, hH hb⟩))
end
end Go.Dw
/- A region that draws its order: what is left of its head is walked once for all orders: each operation from what the operations that it waits for have left, in any later world. No program in sight. -/
namespace Go.Dw
open Go.RowKit
section
variable {P : Program} {ops : Array Oper} {Q : Exit → Act → World → Prop} {S : World → Prop}
def dstOf (ops : Array Oper) (i : Nat) : Option Tmp := (ops[i]?).bind (·.dst)
def acts (ops : Array Oper) (vs : Nat → Value) : List Nat → Act → Act
  | [], a => a
  | i :: L, a => acts ops vs L (a.put (dstOf ops i) (vs i))
def lsts : List Nat → Array Bool → Array Bool
  | [], l => l
  | i :: L, l => lsts L (l.setIfInBounds i true)
theorem acts_append (vs : Nat → Value) : ∀ (L M : List Nat) (a : Act), acts ops vs (L ++ M) a = acts ops vs M (acts ops vs L a)
  | [], _, _ => rfl
  | i :: L, M, a => acts_append vs L M _
theorem lsts_append : ∀ (L M : List Nat) (l : Array Bool), lsts (L ++ M) l = lsts M (lsts L l)
  | [], _, _ => rfl
  | _ :: L, M, _ => lsts_append L M _
theorem acts_congr {vs us : Nat → Value} : ∀ {L : List Nat} {a : Act}, (∀ i ∈ L, vs i = us i) → acts ops vs L a = acts ops us L a
  | [], _, _ => rfl
  | i :: L, a, h => by
    show acts ops vs L (a.put (dstOf ops i) (vs i)) = acts ops us L (a.put (dstOf ops i) (us i))
    rw [h i (by simp)]
    exact acts_congr fun j hj => h j (by simp [hj])
theorem acts_size (vs : Nat → Value) : ∀ (L : List Nat) (a : Act), (acts ops vs L a).tmps.size = a.tmps.size
  | [], _ => rfl
  | i :: L, a => by
    show (acts ops vs L (a.put (dstOf ops i) (vs i))).tmps.size = _
    rw [acts_size vs L]
    unfold Act.put
    split <;> simp
theorem acts_foldl (vs : Nat → Value) : ∀ (L : List Nat) (a : Act), acts ops vs L a = L.foldl (fun a i => a.put (dstOf ops i) (vs i)) a
  | [], _ => rfl
  | _ :: L, _ => acts_foldl vs L _
theorem lsts_foldl : ∀ (L : List Nat) (l : Array Bool), lsts L l = L.foldl (fun l i => l.setIfInBounds i true) l
  | [], _ => rfl
  | _ :: L, _ => lsts_foldl L _
theorem lsts_size : ∀ (L : List Nat) (l : Array Bool), (lsts L l).size = l.size
  | [], _ => rfl
  | i :: L, l => by show (lsts L (l.setIfInBounds i true)).size = _; rw [lsts_size L]; simp
theorem lsts_getD (d : Bool) : ∀ (L : List Nat) (l : Array Bool) (i : Nat), i < l.size → (lsts L l).getD i d = if i ∈ L then true else l.getD i d
  | [], _, _, _ => by simp [lsts]
  | j :: L, l, i, h => by
    show (lsts L (l.setIfInBounds j true)).getD i d = _
    rw [lsts_getD d L _ i (by simpa using h)]
    by_cases hi : i ∈ L
    · simp [hi]
    · by_cases hj : j = i
      · subst hj; simp [hi, h]
      · rw [getD_set_ne d hj]; simp [hi, Ne.symm hj]
theorem lsts_perm {L M : List Nat} (hp : L.Perm M) (l : Array Bool) : lsts L l = lsts M l := by
  rw [lsts_foldl, lsts_foldl]
  refine hp.foldl_eq' (fun i _ j _ z => ?_) l
  by_cases hij : i = j
  · subst hij; rfl
  · exact Array.setIfInBounds_comm _ _ hij
def apartB (ops : Array Oper) (Rm : List Nat) : Bool := Rm.all fun i => Rm.all fun j => i == j || (match dstOf ops i with | none => true | some d => dstOf ops j != some d)
theorem apartB_spec {Rm : List Nat} (h : apartB ops Rm = true) {i j : Nat} (hi : i ∈ Rm) (hj : j ∈ Rm) (hne : i ≠ j) : ∀ d, dstOf ops i = some d → dstOf ops j ≠ some d := by
  intro d hd
  have h1 := List.all_eq_true.1 (List.all_eq_true.1 h i hi) j hj
  rw [hd] at h1
  simpa [hne] using h1
theorem acts_perm {Rm : List Nat} (h : apartB ops Rm = true) (vs : Nat → Value) {L M : List Nat} (hL : ∀ i ∈ L, i ∈ Rm) (hp : L.Perm M) (a : Act) : acts ops vs L a = acts ops vs M a := by
  rw [acts_foldl, acts_foldl]
  refine hp.foldl_eq' (fun i hi j hj z => ?_) a
  by_cases hij : i = j
  · subst hij; rfl
  · exact Act.put_comm z _ _ (apartB_spec h (hL i hi) (hL j hj) hij)
theorem exec_acts (o : Oper) (hs : ∀ cs b, o.op ≠ .select cs b) (vs : Nat → Value) : ∀ {L : List Nat} {a : Act}, (∀ j ∈ L, ∀ d, dstOf ops j = some d → d ∉ o.looksAt ops) → execOp (acts ops vs L a).eval o = execOp a.eval o ∧ Region.wanted o (yielded ops (acts ops vs L a).tmps) = Region.wanted o (yielded ops a.tmps)
  | [], _, _ => ⟨rfl, rfl⟩
  | i :: L, a, h => by
    have h1 := exec_acts o hs vs (L := L) (a := a.put (dstOf ops i) (vs i)) (fun j hj => h j (by simp [hj]))
    have h2 := h i (by simp)
    exact ⟨h1.1.trans (execOp_put o hs a _ _ h2), h1.2.trans (wanted_put o a _ _ h2)⟩
def leftB (ops : Array Oper) (l0 : Array Bool) (n : Nat) (Rm : List Nat) (B : List (List Nat)) : Bool :=
  decide (l0.size = ops.size) && decide Rm.Nodup && (Rm.all fun i => decide (i < n) && !l0.getD i true) && apartB ops Rm && Region.noSelect ops &&
  ((List.range ops.size).all fun i => match ops[i]? with
  | none => false
  | some o => (!l0.getD i true || (o.after.toList.all fun e => !Region.binds .any e || l0.getD e.on false)) &&
    ((B.getD i []).all fun j => Rm.contains j && ((List.range ops.size).any fun k => Region.waitsFor .any ops i k && (k == j || (decide (k < i) && (B.getD k []).contains j)))) &&
    (l0.getD i true || Rm.contains i || Rm.all fun j => (B.getD i []).contains j) &&
    (!Rm.contains i || ((o.after.toList.all fun e => !Region.binds .any e || l0.getD e.on false || (Rm.contains e.on && decide (e.on < i))) && decide (B.getD i []).Nodup &&
      Rm.all fun j => j == i || (B.getD i []).contains j || (match dstOf ops j with | none => true | some d => !(o.looksAt ops).contains d))))
structure LeftOk (ops : Array Oper) (l0 : Array Bool) (n : Nat) (Rm : List Nat) (B : List (List Nat)) : Prop where
  size : l0.size = ops.size
  nodup : Rm.Nodup
  rm : ∀ i ∈ Rm, i < n ∧ l0.getD i true = false
  apart : apartB ops Rm = true
  sel : Region.noSelect ops = true
  closed : ∀ i o, ops[i]? = some o → l0.getD i true = true → ∀ e ∈ o.after, Region.binds .any e = true → l0.getD e.on false = true
  inRm : ∀ i, i < ops.size → ∀ j ∈ B.getD i [], j ∈ Rm
  road : ∀ i, i < ops.size → ∀ j ∈ B.getD i [], ∃ k, Region.waitsFor .any ops i k = true ∧ (k = j ∨ (k < i ∧ j ∈ B.getD k []))
  tail : ∀ i, i < ops.size → l0.getD i true = false → i ∉ Rm → ∀ j ∈ Rm, j ∈ B.getD i []
  back : ∀ i o, i ∈ Rm → ops[i]? = some o → ∀ e ∈ o.after, Region.binds .any e = true → l0.getD e.on false = true ∨ (e.on ∈ Rm ∧ e.on < i)
  bnodup : ∀ i ∈ Rm, i < ops.size → (B.getD i []).Nodup
  far : ∀ i o, i ∈ Rm → ops[i]? = some o → ∀ j ∈ Rm, j ≠ i → j ∉ B.getD i [] → ∀ d, dstOf ops j = some d → d ∉ o.looksAt ops
theorem leftB_spec {l0 : Array Bool} {n : Nat} {Rm : List Nat} {B : List (List Nat)} (h : leftB ops l0 n Rm B = true) : LeftOk ops l0 n Rm B := by
  simp only [leftB, Bool.and_eq_true, decide_eq_true_eq] at h
  obtain ⟨⟨⟨⟨⟨h1, h2⟩, h3⟩, h4⟩, h5⟩, h6⟩ := h
  have key : ∀ i o, ops[i]? = some o → i < ops.size ∧ (l0.getD i true = false ∨ ∀ e ∈ o.after, Region.binds .any e = false ∨ l0.getD e.on false = true) ∧
      (∀ j ∈ B.getD i [], j ∈ Rm ∧ ∃ k, k < ops.size ∧ Region.waitsFor .any ops i k = true ∧ (k = j ∨ (k < i ∧ j ∈ B.getD k []))) ∧
      (l0.getD i true = true ∨ i ∈ Rm ∨ ∀ j ∈ Rm, j ∈ B.getD i []) ∧
      (i ∉ Rm ∨ ((∀ e ∈ o.after, Region.binds .any e = false ∨ l0.getD e.on false = true ∨ (e.on ∈ Rm ∧ e.on < i)) ∧ (B.getD i []).Nodup ∧ ∀ j ∈ Rm, j = i ∨ j ∈ B.getD i [] ∨ ∀ d, dstOf ops j = some d → d ∉ o.looksAt ops)) := by
    intro i o ho
    have hi : i < ops.size := (Array.getElem?_eq_some_iff.1 ho).1
    have h7 := List.all_eq_true.1 h6 i (List.mem_range.2 hi)
    rw [ho] at h7
    simp only [Bool.and_eq_true, Bool.or_eq_true, Bool.not_eq_true', List.all_eq_true, List.any_eq_true, List.mem_range, decide_eq_true_eq, beq_iff_eq, List.contains_iff_mem] at h7
    obtain ⟨⟨⟨a1, a2⟩, a3⟩, a4⟩ := h7
    refine ⟨hi, a1.imp id (fun h e he => h e (by simpa using he)), fun j hj => ?_, ?_, ?_⟩
    · obtain ⟨b1, k, b2, b3, b4⟩ := a2 j hj
      exact ⟨b1, k, b2, b3, b4⟩
    · rcases a3 with (a3 | a3) | a3
      · exact .inl a3
      · exact .inr (.inl a3)
      · exact .inr (.inr a3)
    · rcases a4 with a4 | ⟨⟨c1, c2⟩, c3⟩
      · left; intro hm; rw [List.contains_iff_mem.2 hm] at a4; cases a4
      · refine .inr ⟨fun e he => ?_, c2, fun j hj => ?_⟩
        · rcases c1 e (by simpa using he) with (c1 | c1) | c1
          · exact .inl c1
          · exact .inr (.inl c1)
          · exact .inr (.inr c1)
        · rcases c3 j hj with (c3 | c3) | c3
          · exact .inl c3
          · exact .inr (.inl c3)
          · refine .inr (.inr fun d hd => ?_)
            rw [hd] at c3
            simpa using c3
  have some_of : ∀ i, i < ops.size → ∃ o, ops[i]? = some o := fun i hi => ⟨_, Array.getElem?_eq_getElem hi⟩
  refine ⟨h1, h2, fun i hi => ?_, h4, h5, fun i o ho hl e he hb => ?_, fun i hi j hj => ?_, fun i hi j hj => ?_, fun i hi hl hr j hj => ?_, fun i o hi ho e he hb => ?_, fun i hi his => ?_, fun i o hi ho j hj hne hnb => ?_⟩
  · have := List.all_eq_true.1 h3 i hi
    simpa using this
  · rcases (key i o ho).2.1 with h | h
    · rw [hl] at h; cases h
    · rcases h e he with h | h
      · rw [hb] at h; cases h
      · exact h
  · obtain ⟨o, ho⟩ := some_of i hi
    exact ((key i o ho).2.2.1 j hj).1
  · obtain ⟨o, ho⟩ := some_of i hi
    obtain ⟨_, k, _, h7, h8⟩ := (key i o ho).2.2.1 j hj
    exact ⟨k, h7, h8⟩
  · obtain ⟨o, ho⟩ := some_of i hi
    rcases (key i o ho).2.2.2.1 with h | h | h
    · rw [hl] at h; cases h
    · exact absurd h hr
    · exact h j hj
  · rcases (key i o ho).2.2.2.2 with h | h
    · exact absurd hi h
    · rcases h.1 e he with h | h | h
      · rw [hb] at h; cases h
      · exact .inl h
      · exact .inr h
  · obtain ⟨o, ho⟩ := some_of i his
    rcases (key i o ho).2.2.2.2 with h | h
    · exact absurd hi h
    · exact h.2.1
  · rcases (key i o ho).2.2.2.2 with h | h
    · exact absurd hi h
    · rcases h.2.2 j hj with h | h | h
      · exact absurd h hne
      · exact absurd h hnb
      · exact h
def JStep (P : Program) (ops : Array Oper) (Rm : List Nat) (V : Nat → Value → World → Prop) (X : Nat → Nat → Value → Value → Prop) (R : World → World → Prop) (i : Nat) (o : Oper) (a : Act) (w : World) : Prop :=
  Region.wanted o (yielded ops a.tmps) = true ∧ ∀ K : Act → World → Prop, Hid (∀ a' v w', a' = a.put o.dst v → V i v w' → (∀ j u, j ∈ Rm → j ≠ i → V j u w → X j i u v) → R w w' → K a' w') → o.wp P a w K (fun _ _ _ => False)
theorem put_same {a b : Act} {d : Option Tmp} {u v : Value} (h : a.put d u = a.put d v) (hs : b.tmps.size = a.tmps.size) : b.put d u = b.put d v := by
  cases d with
  | none => rfl
  | some t =>
    by_cases ht : t < a.tmps.size
    · have h1 := congrArg (fun x : Act => x.tmps[t]?) h
      simp [Act.put, ht] at h1
      rw [h1]
    · simp only [Act.put]
      have ht' : b.tmps.size ≤ t := by rw [hs]; exact Nat.le_of_not_lt ht
      rw [Array.setIfInBounds_eq_of_size_le ht', Array.setIfInBounds_eq_of_size_le ht']
theorem upon_lift {o : Oper} {a b : Act} {w : World} {T : Value → World → Prop} (hs : b.tmps.size = a.tmps.size) (he : execOp b.eval o = execOp a.eval o)
    (h : o.wp P a w (fun a' w' => ∃ v, a' = a.put o.dst v ∧ T v w') (fun _ _ _ => False)) : o.wp P b w (fun a' w' => ∃ v, a' = b.put o.dst v ∧ T v w') Q := by
  unfold Oper.wp at *
  rw [he]
  generalize (execOp a.eval o).run P w = r at *
  cases r with
  | ok n w' =>
    cases n <;> simp only [Oper.upon] at h ⊢
    case value u =>
      obtain ⟨v, h1, h2⟩ := h
      exact ⟨v, put_same h1 hs, h2⟩
    case skip =>
      obtain ⟨v, h1, h2⟩ := h
      exact ⟨v, put_same h1 hs, h2⟩
    case defer d =>
      obtain ⟨v, h1, _⟩ := h
      have h2 := congrArg (fun x : Act => x.defers.length) h1
      exfalso
      revert h2
      cases o.dst <;> simp [Act.put]
    case enter f args =>
      refine Calls.mono h fun e w'' he => ?_
      cases e with
      | returned u =>
        obtain ⟨v, h1, h2⟩ := he
        exact ⟨v, put_same h1 hs, h2⟩
      | panicked c => exact he.elim
      | outgrown =>
        obtain ⟨_, _, h1⟩ := he
        exact h1.elim
    case row row args =>
      refine Rows.mono h fun u w'' he => ?_
      obtain ⟨v, h1, h2⟩ := he
      exact ⟨v, put_same h1 hs, h2⟩
  | halt x w' => cases x <;> simp only [Oper.upon] at h ⊢
theorem join_core {n : Nat} {l0 : Array Bool} {Rm : List Nat} {B : List (List Nat)} (ok : LeftOk ops l0 n Rm B) {V : Nat → Value → World → Prop} {X : Nat → Nat → Value → Value → Prop} {G : World → Prop} {R : World → World → Prop} {a0 : Act} (T : Nat → Array Bool → Act → World → Prop) (f0 : Nat)
    (hT : ∀ f listed a w, listed.size = ops.size → Region.ready .any ops listed ≠ [] → (∀ i ∈ Region.ready .any ops listed, i < n ∧ wpOp P ops Q i (fun a' w' => S w' ∧ T f (listed.setIfInBounds i true) a' w') a w) → T (f + 1) listed a w)
    (hGS : ∀ w, G w → S w) (hG : ∀ w w', G w → R w w' → G w') (hV : ∀ i v w w', i ∈ Rm → V i v w → R w w' → V i v w')
    (hstep : ∀ i o, i ∈ Rm → ops[i]? = some o → ∀ vs w, G w → (∀ j ∈ B.getD i [], V j (vs j) w) → JStep P ops Rm V X R i o (acts ops vs (B.getD i []) a0) w)
    (hend : ∀ vs w, G w → (∀ i ∈ Rm, V i (vs i) w) → (∀ i ∈ Rm, ∀ j ∈ Rm, i ≠ j → X i j (vs i) (vs j) ∨ X j i (vs j) (vs i)) → T f0 (lsts Rm l0) (acts ops vs Rm a0) w) :
    ∀ (f : Nat) (vs : Nat → Value) (L : List Nat) (w : World), f + L.length = Rm.length → L.Nodup → (∀ i ∈ L, i ∈ Rm) → (∀ i ∈ L, ∀ o, ops[i]? = some o → ∀ e ∈ o.after, Region.binds .any e = true → l0.getD e.on false = true ∨ e.on ∈ L) → G w → (∀ i ∈ L, V i (vs i) w) → (∀ i ∈ L, ∀ j ∈ L, i ≠ j → X i j (vs i) (vs j) ∨ X j i (vs j) (vs i)) →
      T (f + f0) (lsts L l0) (acts ops vs L a0) w := by
  have hszR : ∀ i ∈ Rm, i < ops.size := fun i hi => by
    have h1 := (ok.rm i hi).2
    rcases Nat.lt_or_ge i l0.size with h | h
    · rw [← ok.size]; exact h
    · rw [Array.getD_eq_getD_getElem?, Array.getElem?_eq_none h] at h1; cases h1
  intro f
  induction f with
  | zero =>
    intro vs L w hf hd hL _ hg hv hx
    have hp : L.Perm Rm := by
      refine (List.perm_ext_iff_of_nodup hd ok.nodup).2 fun i => ⟨hL i, fun hi => Classical.byContradiction fun hno => ?_⟩
      have h1 : (i :: L).Nodup := List.nodup_cons.2 ⟨hno, hd⟩
      have h2 : ((i :: L).filter fun j => Rm.contains j).length ≤ Rm.length := by
        have h3 : ∀ (M : List Nat), M.Nodup → ∀ (A : List Nat), A.Nodup → (∀ j ∈ A, j ∈ M) → A.length ≤ M.length := by
          intro M
          induction M with
          | nil => intro _ A _ h; cases A with
            | nil => simp
            | cons x A => exact absurd (h x (by simp)) (by simp)
          | cons x M ih =>
            intro hM A hA h
            obtain ⟨hx, hM⟩ := List.nodup_cons.1 hM
            have h4 := ih hM (A.erase x) (hA.erase x) (fun j hj => by
              obtain ⟨h5, h6⟩ := (hA.mem_erase_iff).1 hj
              rcases List.mem_cons.1 (h j h6) with h7 | h7
              · exact absurd h7 h5
              · exact h7)
            by_cases hxa : x ∈ A
            · rw [List.length_erase_of_mem hxa] at h4
              simp; omega
            · rw [List.erase_of_not_mem hxa] at h4
              simp; omega
        refine h3 Rm ok.nodup _ (h1.filter _) fun j hj => ?_
        exact List.contains_iff_mem.1 (List.mem_filter.1 hj).2
      rw [List.filter_eq_self.2 (fun j hj => ?_)] at h2
      · simp at h2; omega
      · rcases List.mem_cons.1 hj with rfl | hj
        · exact List.contains_iff_mem.2 hi
        · exact List.contains_iff_mem.2 (hL j hj)
    rw [lsts_perm hp, acts_perm ok.apart vs hL hp, Nat.zero_add]
    exact hend vs w hg (fun i hi => hv i (hp.mem_iff.2 hi)) fun i hi j hj => hx i (hp.mem_iff.2 hi) j (hp.mem_iff.2 hj)
  | succ f ih =>
    intro vs L w hf hd hL hcl hg hv hx
    have hlsz : (lsts L l0).size = ops.size := by rw [lsts_size, ok.size]
    have hun : ∀ i ∈ Rm, i ∉ L → (lsts L l0).getD i true = false := fun i hi hl => by
      rw [lsts_getD true L l0 i (by rw [ok.size]; exact hszR i hi), if_neg hl]
      exact (ok.rm i hi).2
    obtain ⟨i0, hi0, hn0⟩ : ∃ i ∈ Rm, i ∉ L := by
      refine Classical.byContradiction fun hno => ?_
      have hp : L.Perm Rm := (List.perm_ext_iff_of_nodup hd ok.nodup).2 fun i => ⟨hL i, fun hi => Classical.byContradiction fun h3 => hno ⟨i, hi, h3⟩⟩
      have := hp.length_eq
      omega
    -- what is listed is closed
    have hclosed : ∀ i, (lsts L l0).getD i true = true → ∀ o, ops[i]? = some o → ∀ e ∈ o.after, Region.binds .any e = true → (lsts L l0).getD e.on false = true := fun i hi o ho e he hb => by
      have his : i < ops.size := (Array.getElem?_eq_some_iff.1 ho).1
      rw [lsts_getD true L l0 i (by rw [ok.size]; exact his)] at hi
      have h1 : l0.getD e.on false = true ∨ e.on ∈ L := by
        by_cases hl : i ∈ L
        · exact hcl i hl o ho e he hb
        · rw [if_neg hl] at hi
          exact .inl (ok.closed i o ho hi e he hb)
      have h2 : e.on < l0.size := by
        rcases h1 with h1 | h1
        · rcases Nat.lt_or_ge e.on l0.size with h | h
          · exact h
          · rw [Array.getD_eq_getD_getElem?, Array.getElem?_eq_none h] at h1; cases h1
        · rw [ok.size]; exact hszR _ (hL _ h1)
      rw [lsts_getD false L l0 e.on h2]
      rcases h1 with h1 | h1
      · rw [h1]; split <;> rfl
      · rw [if_pos h1]
    have lt_of_true : ∀ k, (lsts L l0).getD k false = true → k < ops.size := fun k hk => by
      rcases Nat.lt_or_ge k (lsts L l0).size with h | h
      · rw [← hlsz]; exact h
      · rw [Array.getD_eq_getD_getElem?, Array.getElem?_eq_none h] at hk; cases hk
    have hreach : ∀ i, i < ops.size → (∀ o, ops[i]? = some o → ∀ e ∈ o.after, Region.binds .any e = true → (lsts L l0).getD e.on false = true) → ∀ j ∈ B.getD i [], (lsts L l0).getD j false = true := by
      intro i
      induction i using Nat.strongRecOn with
      | _ i ih2 =>
        intro his hall j hj
        obtain ⟨k, hw, hkj⟩ := ok.road i his j hj
        obtain ⟨o, ho, e, he, hb, rfl⟩ := Region.waitsFor_spec hw
        have h1 := hall o ho e he hb
        have hks := lt_of_true _ h1
        rcases hkj with rfl | ⟨hlt, hkj⟩
        · exact h1
        · refine ih2 e.on hlt hks (fun o2 ho2 => ?_) j hkj
          have h3 : (lsts L l0).getD e.on true = true := by
            cases h4 : (lsts L l0).getD e.on true with
            | true => rfl
            | false => rw [getD_both h4] at h1; cases h1
          exact hclosed e.on h3 o2 ho2
    have hin : ∀ j ∈ Rm, (lsts L l0).getD j false = true → j ∈ L := fun j hj h => Classical.byContradiction fun hl => by
      rw [getD_both (hun j hj hl)] at h
      cases h
    rw [show f + 1 + f0 = (f + f0) + 1 by omega]
    refine hT _ _ _ _ hlsz (fun hr => ?_) (fun i hi => ?_)
    · -- the least that has not come up is ready
      have key : ∀ i, i ∈ Rm → i ∈ L := by
        intro i
        induction i using Nat.strongRecOn with
        | _ i ih2 =>
          intro hi
          refine Classical.byContradiction fun hl => ?_
          obtain ⟨o, ho⟩ : ∃ o, ops[i]? = some o := ⟨_, Array.getElem?_eq_getElem (hszR i hi)⟩
          have : i ∈ Region.ready .any ops (lsts L l0) := mem_ready.2 ⟨hun i hi hl, o, ho, fun e he hb => by
            rcases ok.back i o hi ho e he hb with h1 | ⟨h1, h2⟩
            · have h3 : e.on < l0.size := by
                rcases Nat.lt_or_ge e.on l0.size with h | h
                · exact h
                · rw [Array.getD_eq_getD_getElem?, Array.getElem?_eq_none h] at h1; cases h1
              rw [lsts_getD false L l0 e.on h3, h1]; split <;> rfl
            · rw [lsts_getD false L l0 e.on (by rw [ok.size]; exact hszR _ h1), if_pos (ih2 e.on h2 h1)]⟩
          rw [hr] at this
          cases this
      exact hn0 (key i0 hi0)
    · obtain ⟨hiun, o, ho, hall⟩ := mem_ready.1 hi
      have his : i < ops.size := (Array.getElem?_eq_some_iff.1 ho).1
      have hanc := hreach i his (fun o2 ho2 e he hb => by
        have : o2 = o := Option.some.inj (ho2.symm.trans ho)
        subst this
        exact hall e he hb)
      have hiL : i ∉ L := fun hl => by
        rw [lsts_getD true L l0 i (by rw [ok.size]; exact his), if_pos hl] at hiun
        cases hiun
      have hi0f : l0.getD i true = false := by
        rwa [lsts_getD true L l0 i (by rw [ok.size]; exact his), if_neg hiL] at hiun
      have hiR : i ∈ Rm := Classical.byContradiction fun hno => by
        exact hn0 (hin i0 hi0 (hanc i0 (ok.tail i his hi0f hno i0 hi0)))
      refine ⟨(ok.rm i hiR).1, ?_⟩
      have hsub : ∀ j ∈ B.getD i [], j ∈ L := fun j hj => hin j (ok.inRm i his j hj) (hanc j hj)
      have hp : L.Perm (B.getD i [] ++ L.filter fun j => !(B.getD i []).contains j) := by
        refine (List.perm_ext_iff_of_nodup hd ?_).2 fun j => ?_
        · refine List.nodup_append.2 ⟨ok.bnodup i hiR his, hd.filter _, fun x hx y hy hxy => ?_⟩
          subst hxy
          have h9 := (List.mem_filter.1 hy).2
          rw [List.contains_iff_mem.2 hx] at h9
          cases h9
        · simp only [List.mem_append, List.mem_filter]
          constructor
          · intro hj
            by_cases hja : j ∈ B.getD i []
            · exact .inl hja
            · exact .inr ⟨hj, by simpa using hja⟩
          · rintro (hj | hj)
            · exact hsub j hj
            · exact hj.1
      have hact : acts ops vs L a0 = acts ops vs (L.filter fun j => !(B.getD i []).contains j) (acts ops vs (B.getD i []) a0) := by
        rw [acts_perm ok.apart vs hL hp, acts_append]
      have hex := exec_acts (ops := ops) o (fun cs b => Region.noSelect_spec ok.sel i o cs b ho) vs (L := L.filter fun j => !(B.getD i []).contains j) (a := acts ops vs (B.getD i []) a0) (fun j hj => by
        obtain ⟨h1, h2⟩ := List.mem_filter.1 hj
        exact ok.far i o hiR ho j (hL j h1) (fun e => hiL (e ▸ h1)) (by simpa using h2))
      rw [← hact] at hex
      obtain ⟨hst0, hst⟩ := hstep i o hiR ho vs w hg (fun j hj => hv j (hsub j hj))
      have hnext : ∀ v w', V i v w' → (∀ j u, j ∈ Rm → j ≠ i → V j u w → X j i u v) → R w w' → T (f + f0) ((lsts L l0).setIfInBounds i true) ((acts ops vs L a0).put o.dst v) w' := fun v w' hvi hxi hr => by
        have hvs : ∀ j ∈ L, (fun k => if k = i then v else vs k) j = vs j := fun j hj => by
          have : j ≠ i := fun e => hiL (e ▸ hj)
          simp [this]
        have h1 := ih (fun k => if k = i then v else vs k) (L ++ [i]) w' (by simp; omega) ?_ ?_ ?_ (hG _ _ hg hr) ?_ ?_
        · rw [lsts_append, acts_append, acts_congr hvs] at h1
          have h2 : acts ops (fun k => if k = i then v else vs k) [i] (acts ops vs L a0) = (acts ops vs L a0).put o.dst v := by
            show (acts ops vs L a0).put (dstOf ops i) (if i = i then v else vs i) = _
            rw [if_pos rfl, dstOf, ho]; rfl
          rw [h2] at h1
          exact h1
        · exact List.nodup_append.2 ⟨hd, by simp, fun x hx y hy hxy => by
            simp at hy; subst hy; subst hxy; exact hiL hx⟩
        · intro j hj
          rcases List.mem_append.1 hj with hj | hj
          · exact hL j hj
          · simp at hj; subst hj; exact hiR
        · intro j hj o2 ho2 e he hb
          rcases List.mem_append.1 hj with hj | hj
          · exact (hcl j hj o2 ho2 e he hb).imp id (fun h => List.mem_append_left _ h)
          · simp at hj; subst hj
            have : o2 = o := Option.some.inj (ho2.symm.trans ho)
            subst this
            have h3 := hall e he hb
            have h4 := lt_of_true _ h3
            rw [lsts_getD false L l0 e.on (by rw [ok.size]; exact h4)] at h3
            by_cases hl : e.on ∈ L
            · exact .inr (List.mem_append_left _ hl)
            · rw [if_neg hl] at h3; exact .inl h3
        · intro j hj
          rcases List.mem_append.1 hj with hj | hj
          · have h9 := hV _ _ _ _ (hL j hj) (hv j hj) hr
            rw [← hvs j hj] at h9
            exact h9
          · simp at hj; subst hj
            simpa using hvi
        · intro p hp0 q hq0 hpq
          have nl : ∀ p ∈ L, (if p = i then v else vs p) = vs p := hvs
          have sf : (if i = i then v else vs i) = v := if_pos rfl
          show X p q (if p = i then v else vs p) (if q = i then v else vs q) ∨ X q p (if q = i then v else vs q) (if p = i then v else vs p)
          have hp1 := List.mem_append.1 hp0
          have hq1 := List.mem_append.1 hq0
          clear hp0 hq0
          rcases hp1 with hp1 | hp1
          · rcases hq1 with hq1 | hq1
            · rw [nl p hp1, nl q hq1]; exact hx p hp1 q hq1 hpq
            · obtain rfl : q = i := by simpa using hq1
              rw [nl p hp1, sf]
              exact .inl (hxi p (vs p) (hL p hp1) hpq (hv p hp1))
          · obtain rfl : p = i := by simpa using hp1
            rcases hq1 with hq1 | hq1
            · rw [nl q hq1, sf]
              exact .inr (hxi q (vs q) (hL q hq1) (Ne.symm hpq) (hv q hq1))
            · exact absurd (by simpa using hq1 : q = p).symm hpq
      unfold wpOp
      simp only [ho]
      have hw : Region.wanted o (yielded ops (acts ops vs L a0).tmps) = true := by rw [hex.2]; exact hst0
      simp only [hw, if_true]
      have h1 := hst (fun a' w' => ∃ v, a' = (acts ops vs (B.getD i []) a0).put o.dst v ∧ V i v w' ∧ (∀ j u, j ∈ Rm → j ≠ i → V j u w → X j i u v) ∧ R w w') (fun a' v w' e hv hxv hr => ⟨v, e, hv, hxv, hr⟩)
      have h2 := upon_lift (Q := Q) (b := acts ops vs L a0) (by rw [hact, acts_size]) hex.1 h1
      refine .inl (Oper.wp_mono (fun a' w' h3 => ?_) h2)
      obtain ⟨v, rfl, hvi, hxi, hr⟩ := h3
      exact ⟨hGS _ (hG _ _ hg hr), hnext v w' hvi hxi hr⟩
theorem HL.join {n g f : Nat} {tail : List Oper} {l0 : Array Bool} {a0 : Act} {w0 : World} (Rm : List Nat) (B : List (List Nat)) (V : Nat → Value → World → Prop) (X : Nat → Nat → Value → Value → Prop) (G : World → Prop) (R : World → World → Prop)
    (hB : leftB ops l0 n Rm B = true) (hf : f = Rm.length) (hGS : ∀ w, G w → S w) (hG : ∀ w w', G w → R w w' → G w') (hV : ∀ i v w w', i ∈ Rm → V i v w → R w w' → V i v w') (h0 : G w0)
    (hstep : ∀ i o, i ∈ Rm → ops[i]? = some o → ∀ vs w, G w → (∀ j ∈ B.getD i [], V j (vs j) w) → JStep P ops Rm V X R i o (acts ops vs (B.getD i []) a0) w)
    (hend : ∀ vs w, G w → (∀ i ∈ Rm, V i (vs i) w) → (∀ i ∈ Rm, ∀ j ∈ Rm, i ≠ j → X i j (vs i) (vs j) ∨ X j i (vs j) (vs i)) → HL P ops Q S n g tail 0 (lsts Rm l0) (acts ops vs Rm a0) w) : HL P ops Q S n g tail f l0 a0 w0 := by
  subst hf
  have h1 := join_core (Q := Q) (S := S) (leftB_spec hB) (fun f listed a w => HL P ops Q S n g tail f listed a w) 0 (fun f listed a w _ hne hall hb inv => ⟨hne, fun i hi => ?_⟩) hGS hG hV hstep hend Rm.length (fun _ => undef) [] w0 (by simp) (by simp) (by simp) (by simp) h0 (by simp) (by simp)
  · rw [Nat.add_zero] at h1
    exact h1
  · obtain ⟨h1, h2⟩ := hall i hi
    exact ⟨h1, wpOp_mono (fun a' w' h3 => ⟨h3.1, h3.2 hb (inv.set hi h1)⟩) h2⟩
end
end Go.Dw
