/- The plain functions of Pack; a row of bytes behind another one. -/
import Derived.Test.YtlnjildkdmeflaaDoorName
import Derived.Test.YtlnjildkdmeflaaDoorPut
set_option linter.unusedSimpArgs false
set_option linter.unusedVariables false
namespace Go.Proofs.YtlnjildkdmeflaaDoor
open Go.RowKit Go.Dw
def ckOf (l : List Ck) (k : Nat) : Ck := l.getD k ([], [])
def roomN (c : Ck) : Nat := 8 + c.2.length + c.2.length % 2
def sizeK (l : List Ck) (k : Nat) : Nat := ((l.take k).map roomN).sum
def padB (n : Nat) : By := if n % 2 = 1 then [0] else []
def pack1 (c : Ck) : By := ((c.1 ++ leZ c.2.length 4) ++ c.2) ++ padB c.2.length
def packK (l : List Ck) (k : Nat) : By := (l.take k).flatMap pack1
def namesB (l : List Ck) (k : Nat) : Bool := (l.take k).all fun c => nameB c.1
def packS (l : List Ck) : By × Int :=
  if 1000 < l.length then ([], 2) else if namesB l l.length = false then ([], 5) else if 8000000 < sizeK l l.length then ([], 2) else (packK l l.length, 0)
theorem take_ck {l : List Ck} {k : Nat} (hk : k < l.length) : l.take (k + 1) = l.take k ++ [ckOf l k] := by
  rw [List.take_add_one]; simp [ckOf, List.getD, hk]
theorem sizeK_succ {l : List Ck} {k : Nat} (hk : k < l.length) : sizeK l (k + 1) = sizeK l k + roomN (ckOf l k) := by
  unfold sizeK; rw [take_ck hk]; simp
theorem packK_succ {l : List Ck} {k : Nat} (hk : k < l.length) : packK l (k + 1) = packK l k ++ pack1 (ckOf l k) := by
  unfold packK; rw [take_ck hk]; simp
theorem namesB_succ {l : List Ck} {k : Nat} (hk : k < l.length) : namesB l (k + 1) = (namesB l k && nameB (ckOf l k).1) := by
  unfold namesB; rw [take_ck hk]; simp
theorem namesB_bad {l : List Ck} {k : Nat} (hk : k < l.length) (h : nameB (ckOf l k).1 = false) : namesB l l.length = false := by
  unfold namesB
  rw [List.take_length, List.all_eq_false]
  exact ⟨l[k], List.getElem_mem _, by simp [ckOf, List.getD, hk] at h; simp [h]⟩
theorem namesB_at {l : List Ck} {k : Nat} (hk : k < l.length) (h : namesB l l.length = true) : nameB (ckOf l k).1 = true := by
  unfold namesB at h
  rw [List.take_length, List.all_eq_true] at h
  have := h l[k] (List.getElem_mem _)
  simpa [ckOf, List.getD, hk] using this
theorem nameB_four {s : By} (h : nameB s = true) : s.length = 4 := by
  simp only [nameB, Bool.and_eq_true, beq_iff_eq] at h; exact h.1
theorem padB_length (n : Nat) : (padB n).length = n % 2 := by
  unfold padB; split <;> simp <;> omega
theorem pack1_length {c : Ck} (h : nameB c.1 = true) : (pack1 c).length = roomN c := by
  have := nameB_four h
  unfold pack1 roomN
  simp only [List.length_append, leZ_length, padB_length]
  omega
theorem packK_length {l : List Ck} (h : namesB l l.length = true) : ∀ {k : Nat}, k ≤ l.length → (packK l k).length = sizeK l k
  | 0, _ => by simp [packK, sizeK]
  | k + 1, hk => by
    rw [packK_succ (by omega), sizeK_succ (by omega), List.length_append, packK_length h (by omega), pack1_length (namesB_at (by omega) h)]
theorem sizeK_mono {l : List Ck} {k : Nat} : sizeK l k ≤ sizeK l l.length := by
  have h : l.take l.length = l.take k ++ l.drop k := by rw [List.take_length, List.take_append_drop]
  unfold sizeK; rw [h, List.map_append, List.sum_append]; exact Nat.le_add_right _ _
theorem ck_mem {l : List Ck} {k : Nat} (hk : k < l.length) : ckOf l k ∈ l := by
  simp [ckOf, List.getD, List.getElem?_eq_getElem hk]
theorem sizeK_le {l : List Ck} (h : ∀ c ∈ l, c.2.length ≤ 140737488351232) : ∀ {k : Nat}, k ≤ l.length → sizeK l k ≤ k * 140737488351241
  | 0, _ => by simp [sizeK]
  | k + 1, hk => by
    rw [sizeK_succ (by omega)]
    have := sizeK_le h (k := k) (by omega)
    have := h _ (ck_mem (l := l) (k := k) (by omega))
    unfold roomN
    omega
theorem BysAt.reads {w : World} {B n : Nat} {A : Option Addr} {bs : By} (h : BysAt w B A n bs) : Reads w B 1 A n (bysC bs) := by
  refine ⟨by rw [bysC_length, h.1, Nat.mul_one], fun hn => ?_⟩
  obtain ⟨b, o, e, hb, _⟩ := h.2 0 hn
  refine ⟨_, e, hb, fun j u hj => ?_⟩
  have hjl : j < n := by have := (List.getElem?_eq_some_iff.1 hj).1; rw [bysC_length, h.1] at this; exact this
  obtain ⟨b', o', e', _, hc⟩ := h.2 j hjl
  rw [e] at e'
  injection e' with e'
  injection e' with e1 e2 e3
  subst e1 e2
  rw [show (⟨b, o, none⟩ : Addr).add j = ⟨b, o + j, none⟩ by unfold Addr.add; split <;> simp_all, hc]
  rw [bysC_get (by rw [h.1]; exact hjl)] at hj
  exact hj
theorem bysC_one (bs : By) : ∀ u ∈ bysC bs, u.oneCell' = true := by
  intro u hu
  simp only [bysC, List.mem_map] at hu
  obtain ⟨b, _, rfl⟩ := hu
  rfl
theorem own_len_by {w : World} {base : Nat} {A : Option Addr} {n c : Nat} {bs : By} (h : OwnBys w base (.slice A n c) bs) : n = bs.length := by
  obtain ⟨A', c', e, _, _⟩ := own_form h
  injection e
theorem wpList_app_bys {ops : Array Oper} {rest : List Oper} {o : Oper} {a : Act} {Q : Exit → Act → World → Prop} {w : World} (hgd : o.guard = none) (s x : Operand)
    (ho : o.op = .call { callee := .builtin .append, args := #[s, x], argTypes := #[26, 26] }) (base : Nat) (A0 : Option Addr) (n0 c0 : Nat) (bs : By) (hs : a.eval s = .slice A0 n0 c0) (hown : OwnBys w base (.slice A0 n0 c0) bs)
    (B : Nat) (A : Option Addr) (m c : Nat) (ys : By) (hx : a.eval x = .slice A m c) (hr : BysAt w B A m ys) (hle : n0 + m ≤ 140737488355328) (hb : base ≤ w.heap.size)
    (h : ∀ A' c' w', OwnBys w' base (.slice A' (n0 + m) c') (bs ++ ys) → Gr w w' A0 A' → wpList Tryd.prog ops Q rest (a.put o.dst (.slice A' (n0 + m) c')) w') :
    wpList Tryd.prog ops Q (o :: rest) a w := by
  obtain ⟨i1, e0, e1, e2, e3⟩ := info_parts byte_info
  have hn0 := own_len_by hown
  subst hn0
  refine wpList_append_any w hgd s x 26 ho base 5 i1 _ 1 1 Tryd.underlying26 e0 e1 e2 e3 rfl (by omega) _ bs.length (bysC bs) hs hown B A m c (bysC ys) hx hr.reads (bysC_one ys) (by simp only [maxLen]; omega) (by omega) hb ?_
  intro v' w' h1 h2 h3
  have h4 : OwnBys w' base v' (bs ++ ys) := by unfold OwnBys; rw [bysC_append, List.length_append, hr.1]; exact h1
  obtain ⟨A', c', rfl, _, _⟩ := h4.form
  have hl : (bs ++ ys).length = bs.length + m := by rw [List.length_append, hr.1]
  rw [hl] at h3 h4 ⊢
  exact h A' c' w' h4 (Gr.of h2 h3)
theorem str_size {ys : By} {sy : ByteArray} (h : ByteArray.mk ys.toArray = sy) : sy.size = ys.length := by subst h; exact strOf_size ys
theorem run_app_str (w : World) (base : Nat) (ty : TypeId) (A0 : Option Addr) (n0 c0 : Nat) (bs : By) (hown : OwnBys w base (.slice A0 n0 c0) bs) (ys : By) (sy : ByteArray) (hsy : ByteArray.mk ys.toArray = sy) (hle : n0 + ys.length ≤ 140737488355328) (hb : base ≤ w.heap.size) :
    ∃ A' c' w', (Builtin.append_ #[26, 9] ty #[.slice A0 n0 c0, .string sy]).run Tryd.prog w = .ok (.slice A' (n0 + ys.length) c') w' ∧ OwnBys w' base (.slice A' (n0 + ys.length) c') (bs ++ ys) ∧ Gr w w' A0 A' := by
  obtain ⟨i1, e0, e1, e2, e3⟩ := info_parts byte_info
  have hn0 := own_len_by hown
  subst hn0
  have hsz := str_size hsy
  have hcells : Lib.strCells sy = bysC ys := by subst hsy; exact strCells_eq ys
  obtain ⟨v', w', hr, h1, h2, h3⟩ := Lib.run_append_own_string (P := Tryd.prog) w base 26 9 ty 5 i1 Tryd.underlying26 Tryd.underlying9 e0 e1 e2 e3 _ bs.length (bysC bs) hown sy (by rw [hsz]; simp only [maxLen]; omega) (by rw [hsz]; omega) hb
  have h4 : OwnBys w' base v' (bs ++ ys) := by
    unfold OwnBys
    rw [hcells, hsz] at h1
    rw [bysC_append, List.length_append]; exact h1
  obtain ⟨A', c', rfl, _, _⟩ := h4.form
  have hl : (bs ++ ys).length = bs.length + ys.length := List.length_append
  rw [hl] at hr h4 h3
  refine ⟨A', c', w', hr, h4, ?_⟩
  rw [own_blkA] at h2
  refine ⟨h2, ?_⟩
  have hcase : ∃ A2 c2 w2, (Builtin.append_ #[26, 9] ty #[.slice A0 bs.length c0, .string sy]).run Tryd.prog w = .ok (.slice A2 (bs.length + sy.size) c2) w2 ∧ (blkA A2 = blkA A0 ∨ blkA A2 = some w.heap.size) := by
    have hxl : (bysC bs).length = bs.length := bysC_length bs
    have hown' : w.ownsRow base 5 1 (.slice A0 bs.length c0) bs.length (bysC bs) := hown
    rcases hown'.2 with ⟨e, hz⟩ | ⟨g, cap, cur, e, hbg, hg, hnc, hcm, hcs, _⟩
    · injection e with ea eb ec
      subst ea ec
      rw [hz]
      by_cases hm : sy.size = 0
      · rw [hm]
        refine ⟨none, 0, w, ?_, .inl rfl⟩
        have hf := Lib.run_firstCells_string (P := Tryd.prog) w 1 sy
        rw [hm] at hf
        simp [Builtin.append_, run_underlying Tryd.underlying26, run_underlying Tryd.underlying9, sizeOf, typeInfo, e0, e2, Builtin.lenOf, hm, hf]
      · have hr2 := run_append_nil_string (P := Tryd.prog) w 26 9 ty 5 i1 (.int .u8 0) Tryd.underlying26 Tryd.underlying9 e0 e1 sy (by omega) (by rw [hsz]; omega) (by rw [e3, hsz]; omega)
        rw [Nat.zero_add]
        exact ⟨_, _, _, hr2, .inr rfl⟩
    · injection e with ea eb ec
      subst ea ec
      by_cases hroom : bs.length + sy.size ≤ c0
      · have hcs' : cur.size = c0 := by simpa using hcs
        exact ⟨_, _, _, Lib.run_append_room_string (P := Tryd.prog) w 26 9 ty 5 i1 Tryd.underlying26 Tryd.underlying9 e0 e2 g bs.length c0 cur hg sy hroom (by omega), .inl rfl⟩
      · have holds : ∀ j u, (bysC bs)[j]? = some u → w.cell? ((⟨g, 0, none⟩ : Addr).add j) = some u := hown'.cells (g := g) rfl
        exact ⟨_, _, _, Lib.run_append_grow_string (P := Tryd.prog) w 26 9 ty 5 i1 (.int .u8 0) Tryd.underlying26 Tryd.underlying9 e0 e1 ⟨g, 0, none⟩ bs.length c0 (bysC bs) (by rw [e2]; simpa using hxl) holds sy (by omega) (by rw [hsz]; omega) (by rw [e3]; exact growslice_fits (by rw [hsz]; omega) (by omega)), .inr rfl⟩
  obtain ⟨A2, c2, w2, hr2, hA2⟩ := hcase
  rw [hr] at hr2
  injection hr2 with e1' e2'
  injection e1' with e1'' _ _
  subst e1''
  exact hA2.imp id fun e => ⟨_, e, Nat.le_refl _⟩
theorem wpList_app_str {ops : Array Oper} {rest : List Oper} {o : Oper} {a : Act} {Q : Exit → Act → World → Prop} {w : World} (hgd : o.guard = none) (s x : Operand)
    (ho : o.op = .call { callee := .builtin .append, args := #[s, x], argTypes := #[26, 9] }) (base : Nat) (A0 : Option Addr) (n0 c0 : Nat) (bs : By) (hs : a.eval s = .slice A0 n0 c0) (hown : OwnBys w base (.slice A0 n0 c0) bs)
    (ys : By) (m : Nat) (sy : ByteArray) (hm : Hid (ys.length = m)) (hsy : Hid (ByteArray.mk ys.toArray = sy)) (hx : a.eval x = .string sy) (hle : n0 + m ≤ 140737488355328) (hb : base ≤ w.heap.size)
    (h : ∀ A' c' w', OwnBys w' base (.slice A' (n0 + m) c') (bs ++ ys) → Gr w w' A0 A' → wpList Tryd.prog ops Q rest (a.put o.dst (.slice A' (n0 + m) c')) w') :
    wpList Tryd.prog ops Q (o :: rest) a w := by
  have hm' := hm.out
  subst hm'
  refine wpList_plain hgd fun K hK => ?_
  obtain ⟨A', c', w', hr, h2, h3⟩ := run_app_str w base o.type A0 n0 c0 bs hown ys sy hsy.out hle hb
  unfold Oper.wp execOp
  simp only [ho, resolve, invoke, builtin, Sem.run_bind, Sem.run_pure, Result.andThen_ok, List.map_toArray, List.map_cons, List.map_nil, hs, hx, hr]
  exact hK _ _ (h A' c' w' h2 h3)
theorem CHUNKNAME_str (nm : By) (s : ByteArray) (hs : Hid (ByteArray.mk nm.toArray = s)) (w : World) : Calls Tryd.prog 37 #[.string s] w fun e w' => e = .returned (.bool (nameB nm)) ∧ w = w' := by
  have h := hs.out
  subst h
  exact CHUNKNAME_any nm w
theorem RCHUNKNAME_str (nm : By) (s : ByteArray) (hs : Hid (ByteArray.mk nm.toArray = s)) (w : World) : Calls Tryd.prog 38 #[.string s] w fun e w' => e = .returned (.bool (nameB nm)) ∧ w = w' := by
  have h := hs.out
  subst h
  exact RNAMEOFCHUNK_any nm w
set_option maxHeartbeats 800000 in
theorem RROOM_any (s : Value) (A : Option Addr) (n c : Nat) (hn : n ≤ 140737488351232) (w : World) :
    Calls Tryd.prog 39 #[.agg #[s, .slice A n c]] w fun e w' => e = .returned (.int .i64 ((8 + n + n % 2 : Nat) : Int)) ∧ Below w.heap.size w w' := by
  have h1 : wrap64 (8 + (n : Int)) = 8 + n := IntWalk.wrap64_in _ ⟨by omega, by omega⟩
  have h2 : wrap64 (8 + (n : Int) + (n : Int) % 2) = 8 + (n : Int) + (n : Int) % 2 := IntWalk.wrap64_in _ ⟨by omega, by omega⟩
  go_enter Tryd.func39, Tryd.ntmps39
  go_wp2_with fail
  go_ret
  refine ⟨?_, (Below.refl _ w).alloc (Nat.le_refl _) _⟩
  rw [show ((8 + n + n % 2 : Nat) : Int) = 8 + (n : Int) + (n : Int) % 2 by omega]; rfl
end Go.Proofs.YtlnjildkdmeflaaDoor
