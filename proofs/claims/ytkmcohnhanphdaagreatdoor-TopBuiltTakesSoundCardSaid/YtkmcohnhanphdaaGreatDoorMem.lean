/- Memory, continued: rows of the call's own, appended to, written into; the lemmas Reads, run_append_any and their kin are the guide's own (extra-words), turned to this claim. -/
import Derived.Test.YtkmcohnhanphdaaGreatDoorBase
import Derived.Maps.AppendAt
import Derived.Deep.AppendLies
import Derived.RegionTactic
import Derived.OwnWalk
import Derived.Deep.Draws
set_option linter.unusedSimpArgs false
set_option linter.unusedVariables false
namespace Go.Dw
open Go.RowKit

theorem add_of_add (a : Addr) (i j : Nat) : (a.add i).add j = a.add (i + j) := by
  unfold Addr.add
  by_cases hi : i = 0 <;> by_cases hj : j = 0 <;> simp [hi, hj, Nat.add_assoc]

def Reads (w : World) (B size : Nat) (A : Option Addr) (n : Nat) (xs : List Value) : Prop :=
  xs.length = n * size ∧ (0 < n → ∃ ad, A = some ad ∧ ad.block < B ∧ ∀ j u, xs[j]? = some u → w.cell? (ad.add j) = some u)

section
variable {w w' : World} {B B' size n : Nat} {A : Option Addr} {xs : List Value}
theorem Reads.none_ : Reads w B size A 0 [] := ⟨by simp, fun h => absurd h (by omega)⟩
theorem Reads.at_ {k : Nat} (h : Reads w B 1 A n xs) (hk : k < n) : ∃ ad u, A = some ad ∧ ad.block < B ∧ xs[k]? = some u ∧ w.cell? (ad.add k) = some u := by
  obtain ⟨ad, e, hb, hc⟩ := h.2 (by omega)
  have hl : k < xs.length := by have := h.1; omega
  exact ⟨ad, xs[k], e, hb, List.getElem?_eq_getElem hl, hc k _ (List.getElem?_eq_getElem hl)⟩
theorem Reads.keep (h : Reads w B size A n xs) (hk : ∀ p : Addr, p.block < B → w'.cell? p = w.cell? p) : Reads w' B size A n xs :=
  ⟨h.1, fun hn => by
    obtain ⟨ad, e, hb, hc⟩ := h.2 hn
    exact ⟨ad, e, hb, fun j u hu => (hk _ (by rw [block_of_add]; exact hb)).trans (hc j u hu)⟩⟩
theorem Reads.more (h : Reads w B size A n xs) (hB : B ≤ B') : Reads w B' size A n xs :=
  ⟨h.1, fun hn => by
    obtain ⟨ad, e, hb, hc⟩ := h.2 hn
    exact ⟨ad, e, by omega, hc⟩⟩
theorem Reads.below (h : Reads w B size A n xs) (hb : Below B w w') : Reads w' B size A n xs := h.keep fun _ hp => hb.cell hp
theorem Reads.drew (h : Reads w B size A n xs) : Reads w.drew B size A n xs := h
theorem Reads.drewN (h : Reads w B size A n xs) (k : Nat) : Reads (w.drewN k) B size A n xs := h
theorem Reads.alloc (h : Reads w B size A n xs) (hB : B ≤ w.heap.size) (o : Obj) : Reads (w.alloc o) B size A n xs := h.keep fun p hp => World.cell?_alloc_lt w o p (by omega)
theorem Reads.setCell (h : Reads w B size A n xs) {p : Addr} (hB : B ≤ p.block) (u : Value) : Reads (w.setCell p u) B size A n xs :=
  h.keep fun q hq => World.cell?_setCell_other w p q u (fun e => by subst e; omega)
theorem Reads.grown (h : Reads w B size A n xs) {row : Option Nat} (hg : w.grownBy w' row) (hB : B ≤ w.heap.size) (hr : ∀ g, row = some g → B ≤ g) : Reads w' B size A n xs :=
  h.keep fun p hp => World.cell?_of_block (hg.block p.block (by omega) (fun e => by have := hr _ e.symm; omega))
theorem Reads.cut (h : Reads w B size A n xs) {k cap : Nat} (hk : k ≤ n) (hc : n ≤ cap) :
    Reads w B size (if cap = k then A else A.map (·.add (k * size))) (n - k) (xs.drop (k * size)) := by
  refine ⟨by rw [List.length_drop, h.1, Nat.sub_mul], fun hn => ?_⟩
  obtain ⟨ad, rfl, hb, hcell⟩ := h.2 (by omega)
  rw [if_neg (by omega)]
  refine ⟨ad.add (k * size), rfl, by rw [block_of_add]; exact hb, fun j u hu => ?_⟩
  rw [add_of_add]
  exact hcell _ u (by rw [← hu, List.getElem?_drop])
theorem Reads.of_own {base : Nat} {e : TypeId} {c : Nat} (h : w.ownsRow base e size (.slice A n c) n xs) : Reads w w.heap.size size A n xs := by
  refine ⟨h.1, fun hn => ?_⟩
  obtain ⟨g, cap, hv, _, hlt⟩ := h.form hn
  have hA : A = some ⟨g, 0, none⟩ := by injection hv
  subst hA
  exact ⟨_, rfl, hlt, h.cells (g := g) rfl⟩
end

section
variable {P : Program} (w : World)

theorem run_append_of_nil (base : Nat) (t ty e : TypeId) (i : TypeInfo) (size : Nat) (ht : P.underlying t = some (.slice e)) (hi : P.info? e = some i)
    (v : Value) (n : Nat) (xs : List Value) (hown : w.ownsRow base e size v n xs) (c : Nat) : (Builtin.append_ #[t, t] ty #[v, .slice none 0 c]).run P w = .ok v w := by
  rcases hown.2 with ⟨rfl, rfl⟩ | ⟨g, cap, cur, rfl, _, _, hnc, _⟩
  · simp [Builtin.append_, run_underlying ht, sizeOf, typeInfo, hi, Builtin.lenOf, Builtin.firstCells]
  · simp [Builtin.append_, run_underlying ht, sizeOf, typeInfo, hi, Builtin.lenOf, Builtin.firstCells, hnc, storeCells]

theorem run_append_any (base : Nat) (t ty e : TypeId) (i : TypeInfo) (z : Value) (size bytes : Nat) (ht : P.underlying t = some (.slice e)) (hi : P.info? e = some i) (hz : i.zero = some z)
    (hsize : i.size = size) (hby : i.bytes = bytes) (hzs : z.cells.size = size) (hsz : 0 < size)
    (v : Value) (n : Nat) (xs : List Value) (hown : w.ownsRow base e size v n xs)
    (B : Nat) (A : Option Addr) (m c : Nat) (news : List Value) (hr : Reads w B size A m news) (h1 : ∀ u ∈ news, u.oneCell' = true)
    (h63 : n + m ≤ maxLen) (hbytes : (n + m) * bytes ≤ 140737488355328) (hbase : base ≤ w.heap.size) :
    ∃ v' w', (Builtin.append_ #[t, t] ty #[v, .slice A m c]).run P w = .ok v' w' ∧ w'.ownsRow base e size v' (n + m) (xs ++ news) ∧ w.grownBy w' v.ownBlock ∧
      (v'.ownBlock = v.ownBlock ∨ v'.ownBlock = some w.heap.size) := by
  rcases A with _ | ad
  · have hm : m = 0 := by
      rcases Nat.eq_zero_or_pos m with h0 | h0
      · exact h0
      · obtain ⟨ad, h, _⟩ := hr.2 h0
        cases h
    subst hm
    have hn : news = [] := List.eq_nil_of_length_eq_zero (by simpa using hr.1)
    subst hn
    exact ⟨v, w, run_append_of_nil w base t ty e i size ht hi v n xs hown c, by simpa using hown, World.grownBy.refl w _, .inl rfl⟩
  · have hcells : ∀ j u, news[j]? = some u → w.cell? (ad.add j) = some u := by
      intro j u hu
      rcases Nat.eq_zero_or_pos m with h0 | h0
      · subst h0
        have hn : news = [] := List.eq_nil_of_length_eq_zero (by simpa using hr.1)
        subst hn
        simp at hu
      · obtain ⟨ad', h, _, hc⟩ := hr.2 h0
        injection h with h
        subst h
        exact hc j u hu
    obtain ⟨v', w', hrun, h2, h3, _, h5⟩ := run_append_own_at (P := P) w base t ty e i z size bytes ht hi hz hsize hby hzs hsz v n xs hown ad m c news hr.1 hcells h1 h63 hbytes hbase
    exact ⟨v', w', hrun, h2, h3, h5⟩

theorem wp_append_any {o : Oper} {a : Act} {K : Act → World → Prop} {Q : Exit → Act → World → Prop} (s x : Operand) (t : TypeId)
    (ho : o.op = .call { callee := .builtin .append, args := #[s, x], argTypes := #[t, t] })
    (base : Nat) (e : TypeId) (i : TypeInfo) (z : Value) (size bytes : Nat) (ht : P.underlying t = some (.slice e)) (hi : P.info? e = some i) (hz : i.zero = some z)
    (hsize : i.size = size) (hby : i.bytes = bytes) (hzs : z.cells.size = size) (hsz : 0 < size)
    (v : Value) (n : Nat) (xs : List Value) (hs : a.eval s = v) (hown : w.ownsRow base e size v n xs)
    (B : Nat) (A : Option Addr) (m c : Nat) (news : List Value) (hx : a.eval x = .slice A m c) (hr : Reads w B size A m news) (h1 : ∀ u ∈ news, u.oneCell' = true)
    (h63 : n + m ≤ maxLen) (hbytes : (n + m) * bytes ≤ 140737488355328) (hbase : base ≤ w.heap.size)
    (h : ∀ v' w', w'.ownsRow base e size v' (n + m) (xs ++ news) → w.grownBy w' v.ownBlock → (v'.ownBlock = v.ownBlock ∨ v'.ownBlock = some w.heap.size) → K (a.put o.dst v') w') : o.wp P a w K Q := by
  obtain ⟨v', w', hrun, h2, h3, h4⟩ := run_append_any (P := P) w base t o.type e i z size bytes ht hi hz hsize hby hzs hsz v n xs hown B A m c news hr h1 h63 hbytes hbase
  unfold Oper.wp execOp
  simp only [ho, resolve, invoke, builtin, Sem.run_bind, Sem.run_pure, Result.andThen_ok, List.map_toArray, List.map_cons, List.map_nil, hs, hx, hrun]
  exact h v' w' h2 h3 h4

theorem wpList_append_any {ops : Array Oper} {rest : List Oper} {o : Oper} {a : Act} {Q : Exit → Act → World → Prop} (hgd : o.guard = none) (s x : Operand) (t : TypeId)
    (ho : o.op = .call { callee := .builtin .append, args := #[s, x], argTypes := #[t, t] })
    (base : Nat) (e : TypeId) (i : TypeInfo) (z : Value) (size bytes : Nat) (ht : P.underlying t = some (.slice e)) (hi : P.info? e = some i) (hz : i.zero = some z)
    (hsize : i.size = size) (hby : i.bytes = bytes) (hzs : z.cells.size = size) (hsz : 0 < size)
    (v : Value) (n : Nat) (xs : List Value) (hs : a.eval s = v) (hown : w.ownsRow base e size v n xs)
    (B : Nat) (A : Option Addr) (m c : Nat) (news : List Value) (hx : a.eval x = .slice A m c) (hr : Reads w B size A m news) (h1 : ∀ u ∈ news, u.oneCell' = true)
    (h63 : n + m ≤ maxLen) (hbytes : (n + m) * bytes ≤ 140737488355328) (hbase : base ≤ w.heap.size)
    (h : ∀ v' w', w'.ownsRow base e size v' (n + m) (xs ++ news) → w.grownBy w' v.ownBlock → (v'.ownBlock = v.ownBlock ∨ v'.ownBlock = some w.heap.size) → wpList P ops Q rest (a.put o.dst v') w') : wpList P ops Q (o :: rest) a w :=
  wpList_plain hgd fun _ hK => wp_append_any w s x t ho base e i z size bytes ht hi hz hsize hby hzs hsz v n xs hs hown B A m c news hx hr h1 h63 hbytes hbase fun v' w' h2 h3 h4 => hK _ _ (h v' w' h2 h3 h4)

theorem step_append_any {ops : Array Oper} {o : Oper} {a : Act} {K : Act → World → Prop} {Q : Exit → Act → World → Prop} {E : Prop} (hgd : o.guard = none) (s x : Operand) (t : TypeId)
    (ho : o.op = .call { callee := .builtin .append, args := #[s, x], argTypes := #[t, t] })
    (base : Nat) (e : TypeId) (i : TypeInfo) (z : Value) (size bytes : Nat) (ht : P.underlying t = some (.slice e)) (hi : P.info? e = some i) (hz : i.zero = some z)
    (hsize : i.size = size) (hby : i.bytes = bytes) (hzs : z.cells.size = size) (hsz : 0 < size)
    (v : Value) (n : Nat) (xs : List Value) (hs : a.eval s = v) (hown : w.ownsRow base e size v n xs)
    (B : Nat) (A : Option Addr) (m c : Nat) (news : List Value) (hx : a.eval x = .slice A m c) (hr : Reads w B size A m news) (h1 : ∀ u ∈ news, u.oneCell' = true)
    (h63 : n + m ≤ maxLen) (hbytes : (n + m) * bytes ≤ 140737488355328) (hbase : base ≤ w.heap.size)
    (h : ∀ v' w', w'.ownsRow base e size v' (n + m) (xs ++ news) → w.grownBy w' v.ownBlock → (v'.ownBlock = v.ownBlock ∨ v'.ownBlock = some w.heap.size) → K (a.put o.dst v') w') :
    if Region.wanted o (yielded ops a.tmps) = true then Oper.wp P o a w K Q else E := by
  have hw : Region.wanted o (yielded ops a.tmps) = true := by simp [Region.wanted, hgd]
  rw [if_pos hw]
  exact wp_append_any w s x t ho base e i z size bytes ht hi hz hsize hby hzs hsz v n xs hs hown B A m c news hx hr h1 h63 hbytes hbase h
end

theorem IntsAt.reads {w : World} {B n xs} {A : Option Addr} (h : IntsAt w B A n xs) : Reads w B 1 A n (xs.map (Value.int .i64)) := by
  refine ⟨by simp [h.1], fun hn => ?_⟩
  obtain ⟨ad, rfl, hb, _⟩ := h.2 0 hn
  refine ⟨ad, rfl, hb, fun j u hu => ?_⟩
  have hj : j < n := by
    have := (List.getElem?_eq_some_iff.1 hu).1
    simp only [List.length_map, h.1] at this
    exact this
  rw [(h.at_ hj).2, ← hu]
  have hx : j < xs.length := by have := h.1; omega
  simp [elOf, List.getElem?_map, List.getElem?_eq_getElem hx]
theorem Reads.ints {w : World} {B n} {xs : List Int} {A : Option Addr} (h : Reads w B 1 A n (xs.map (Value.int .i64))) : IntsAt w B A n xs := by
  have hl : xs.length = n := by simpa using h.1
  refine ⟨hl, fun k hk => ?_⟩
  obtain ⟨ad, u, e, hb, hx, hc⟩ := h.at_ hk
  refine ⟨ad, e, hb, ?_⟩
  rw [hc, ← hx]
  have hx : k < xs.length := by omega
  simp [elOf, List.getElem?_map, List.getElem?_eq_getElem hx]
theorem ownInts {w : World} {base : Nat} {e : TypeId} {A : Option Addr} {n c : Nat} {xs : List Int} (h : w.ownsRow base e 1 (.slice A n c) n (xs.map (Value.int .i64))) : IntsAt w w.heap.size A n xs := (Reads.of_own h).ints
theorem ones (xs : List Int) : ∀ u ∈ xs.map (Value.int .i64), u.oneCell' = true := by
  intro u hu
  obtain ⟨x, _, rfl⟩ := List.mem_map.1 hu
  rfl
theorem own_form {w : World} {base : Nat} {e : TypeId} {size : Nat} {v : Value} {n : Nat} {xs : List Value} (h : w.ownsRow base e size v n xs) : ∃ A c, v = .slice A n c ∧ n ≤ c ∧ c ≤ maxLen := by
  rcases h.2 with ⟨rfl, rfl⟩ | ⟨g, cap, cur, rfl, _, _, h1, h2, _⟩
  · exact ⟨none, 0, rfl, Nat.le_refl _, Nat.zero_le _⟩
  · exact ⟨_, cap, rfl, h1, h2⟩
/-- an owned row stays where all blocks below the heap's size stay -/
theorem own_below {w w' : World} {base : Nat} {e : TypeId} {size : Nat} {v : Value} {n : Nat} {xs : List Value} (h : w.ownsRow base e size v n xs) (hb : Below w.heap.size w w') : w'.ownsRow base e size v n xs :=
  h.kept (row := none) ⟨hb.os, hb.tape, hb.output, hb.size, fun k hk _ => hb.block k hk⟩ (by cases v.ownBlock <;> simp)
theorem own_base {w : World} {base base' : Nat} {e : TypeId} {size : Nat} {v : Value} {n : Nat} {xs : List Value} (h : w.ownsRow base e size v n xs) (hb : base' ≤ base) : w.ownsRow base' e size v n xs := by
  refine ⟨h.1, ?_⟩
  rcases h.2 with h0 | ⟨g, cap, cur, hv, hg, r⟩
  · exact .inl h0
  · exact .inr ⟨g, cap, cur, hv, by omega, r⟩

def cutA (A : Option Addr) (c p : Nat) : Option Addr := if c = p then A else A.map (·.add p)
/-- 'x[p:q]' of a slice: its value under one name -/
theorem run_cut {P : Program} (t e : TypeId) (ht : P.underlying t = some (.slice e)) (i : TypeInfo) (hi : P.info? e = some i) (h1 : i.size = 1) (A : Option Addr) (n c p q : Nat) (hp : p ≤ q) (hq : q ≤ c) (W : World) :
    (Instr.slice t (.slice A n c) (some (.int .i64 p)) (some (.int .i64 q)) none).run P W = .ok (.slice (cutA A c p) (q - p) (c - p)) W := by
  have he : P.elem t = e := by simp [Program.elem, ht]
  rw [run_slice_lh (P := P) (w := W) t A n c (by rw [he]; exact ht) .i64 .i64 p q (by omega) (by omega) (by omega)]
  rw [he]
  simp [sizeOf, typeInfo, hi, h1, sliced, cutA, go_sem]
theorem IntsAt.cut {w : World} {B n c : Nat} {A : Option Addr} {xs : List Int} (h : IntsAt w B A n xs) (hc : n ≤ c) {p q : Nat} (hp : p ≤ q) (hq : q ≤ n) :
    IntsAt w B (cutA A c p) (q - p) ((xs.drop p).take (q - p)) := by
  refine ⟨by simp [h.1]; omega, fun k hk => ?_⟩
  obtain ⟨ad, rfl, hb, _⟩ := h.2 0 (by omega)
  have hx := (h.at_ (k := p + k) (by omega)).2
  unfold cutA
  rw [if_neg (by omega)]
  refine ⟨ad.add p, rfl, by rw [block_of_add]; exact hb, ?_⟩
  rw [add_of_add, hx]
  have h1 : p + k < xs.length := by have := h.1; omega
  simp [elOf, List.getD, hk]
theorem own_cell1 {w : World} {g : Nat} {cs : Array Value} {t : TypeId} (h : w.heap[g]? = some (.cells cs t (0, 0))) (j : Nat) : w.cell? ⟨g, j, none⟩ = cs[j]? := cell_of_row w g j cs t (0, 0) h
/-- a slice of slices of integers of the call's own: every row in a block of its own -/
structure OwnRowsL (w : World) (B : Nat) (v : Value) (xss : List (List Int)) (rows : List Value) : Prop where
  outer : w.ownsRow B 42 1 v xss.length rows
  inner : ∀ (k : Nat) (r : Value), rows[k]? = some r → w.ownsRow B 3 1 r (rowOf xss k).length ((rowOf xss k).map (Value.int .i64))
  apart : ∀ (i j : Nat) (r r' : Value), i < j → rows[i]? = some r → rows[j]? = some r' → r.ownBlock = none ∨ r.ownBlock ≠ r'.ownBlock
def OwnRows (w : World) (B : Nat) (v : Value) (xss : List (List Int)) : Prop := ∃ rows : List Value, OwnRowsL w B v xss rows
theorem OwnRows.nil (w : World) (B : Nat) : OwnRows w B (.slice none 0 0) [] :=
  ⟨[], World.ownsRow_nil _ _ _ _, fun k r h => by simp at h, fun i j r r' _ h => by simp at h⟩
theorem OwnRows.form {w : World} {B : Nat} {v : Value} {xss : List (List Int)} (h : OwnRows w B v xss) : ∃ A c, v = .slice A xss.length c ∧ xss.length ≤ c ∧ c ≤ maxLen := by
  obtain ⟨rows, h1⟩ := h
  exact own_form h1.outer
theorem OwnRowsL.below {w w' : World} {B : Nat} {v : Value} {xss : List (List Int)} {rows : List Value} (h : OwnRowsL w B v xss rows) (hb : Below w.heap.size w w') : OwnRowsL w' B v xss rows :=
  ⟨own_below h.outer hb, fun k r hr => own_below (h.inner k r hr) hb, h.apart⟩
theorem OwnRowsL.base {w : World} {B B' : Nat} {v : Value} {xss : List (List Int)} {rows : List Value} (h : OwnRowsL w B v xss rows) (hb : B' ≤ B) : OwnRowsL w B' v xss rows :=
  ⟨own_base h.outer hb, fun k r hr => own_base (h.inner k r hr) hb, h.apart⟩
theorem OwnRowsL.set_below {w : World} {B : Nat} {v : Value} {xss : List (List Int)} {rows : List Value} (h : OwnRowsL w B v xss rows) {p : Addr} (hp : p.block < B) (u : Value) : OwnRowsL (w.setCell p u) B v xss rows :=
  ⟨ownsRow_setCell_below h.outer hp u, fun k r hr => ownsRow_setCell_below (h.inner k r hr) hp u, h.apart⟩
theorem OwnRows.below {w w' : World} {B : Nat} {v : Value} {xss : List (List Int)} (h : OwnRows w B v xss) (hb : Below w.heap.size w w') : OwnRows w' B v xss :=
  h.elim fun rows h => ⟨rows, h.below hb⟩
theorem OwnRows.base {w : World} {B B' : Nat} {v : Value} {xss : List (List Int)} (h : OwnRows w B v xss) (hb : B' ≤ B) : OwnRows w B' v xss :=
  h.elim fun rows h => ⟨rows, h.base hb⟩
theorem OwnRows.rows {w : World} {B : Nat} {A : Option Addr} {n c : Nat} {xss : List (List Int)} (h : OwnRows w B (.slice A n c) xss) : RowsAt w w.heap.size A n xss := by
  obtain ⟨rows, h1⟩ := h
  obtain ⟨A', c', e, hn, hc⟩ := own_form h1.outer
  injection e with eA en ec
  subst eA en ec
  have hr := Reads.of_own h1.outer
  refine ⟨rfl, by omega, fun k hk => ?_⟩
  obtain ⟨ad, u, hA, hb, hx, hcell⟩ := hr.at_ hk
  have hi := h1.inner k u hx
  obtain ⟨A2, c2, rfl, hn2, hc2⟩ := own_form hi
  exact ⟨ad, hA, hb, A2, _, c2, hcell, hn2, hc2, ownInts hi⟩
/-- rows of different element types lie in different blocks -/
theorem own_ne {w : World} {b b' : Nat} {e e' : TypeId} {s s' : Nat} {v v' : Value} {n n' : Nat} {xs xs' : List Value} (h : w.ownsRow b e s v n xs) (h' : w.ownsRow b' e' s' v' n' xs') (hne : e ≠ e') : v.ownBlock = none ∨ v.ownBlock ≠ v'.ownBlock := by
  rcases h.2 with ⟨rfl, _⟩ | ⟨g, cap, cur, rfl, _, hh, _⟩
  · exact .inl rfl
  · refine .inr fun e => ?_
    rcases h'.2 with ⟨rfl, _⟩ | ⟨g', cap', cur', rfl, _, hh', _⟩
    · cases e
    · simp only [Value.ownBlock, Option.some.injEq] at e
      subst e
      rw [hh] at hh'
      injection hh' with hh'
      injection hh' with _ ht
      exact hne ht
/-- an owned row lies in a block of the heap, from its base on -/
theorem own_lt {w : World} {b : Nat} {e : TypeId} {s : Nat} {v : Value} {n : Nat} {xs : List Value} (h : w.ownsRow b e s v n xs) {k : Nat} (hk : v.ownBlock = some k) : b ≤ k ∧ k < w.heap.size := h.lt k hk
/-- a row is appended: the outer row has gone from v to v' -/
theorem OwnRowsL.push {w0 w w' : World} {B : Nat} {v v' r : Value} {xss : List (List Int)} {xs : List Int} {rows : List Value} (h : OwnRowsL w0 B v xss rows) (hb : Below w0.heap.size w0 w) (hB : B ≤ w0.heap.size)
    (hr : w.ownsRow w0.heap.size 3 1 r xs.length (xs.map (Value.int .i64))) (hv : w'.ownsRow B 42 1 v' (xss.length + 1) (rows ++ [r])) (hg : w.grownBy w' v.ownBlock) : OwnRowsL w' B v' (xss ++ [xs]) (rows ++ [r]) := by
  have hl : rows.length = xss.length := by simpa using h.outer.1
  have hw := h.below hb
  have hrow : ∀ k, k < xss.length → rowOf (xss ++ [xs]) k = rowOf xss k := by
    intro k hk
    simp [rowOf, List.getD, List.getElem?_append_left hk]
  have hlast : rowOf (xss ++ [xs]) xss.length = xs := by simp [rowOf, List.getD]
  refine ⟨by simpa using hv, fun k q hq => ?_, fun i j q q' hij hi hj => ?_⟩
  · by_cases hk : k < rows.length
    · rw [List.getElem?_append_left hk] at hq
      rw [hrow k (by omega)]
      exact (hw.inner k q hq).kept hg (own_ne (hw.inner k q hq) hw.outer (by decide))
    · have hlt := (List.getElem?_eq_some_iff.1 hq).1
      simp only [List.length_append, List.length_singleton] at hlt
      obtain rfl : k = rows.length := by omega
      rw [List.getElem?_append_right (Nat.le_refl _)] at hq
      simp only [Nat.sub_self, List.getElem?_cons_zero, Option.some.injEq] at hq
      subst hq
      rw [hl, hlast]
      exact (own_base hr hB).kept hg (own_ne hr hw.outer (by decide))
  · have hjl := (List.getElem?_eq_some_iff.1 hj).1
    simp only [List.length_append, List.length_singleton] at hjl
    have hil : i < rows.length := by omega
    rw [List.getElem?_append_left hil] at hi
    by_cases hjl' : j < rows.length
    · rw [List.getElem?_append_left hjl'] at hj
      exact h.apart i j q q' hij hi hj
    · obtain rfl : j = rows.length := by omega
      rw [List.getElem?_append_right (Nat.le_refl _)] at hj
      simp only [Nat.sub_self, List.getElem?_cons_zero, Option.some.injEq] at hj
      subst hj
      cases e : q.ownBlock with
      | none => exact .inl rfl
      | some k =>
        refine .inr fun e' => ?_
        have h1 := own_lt (h.inner i q hi) e
        have h2 := own_lt hr e'.symm
        omega
end Go.Dw
