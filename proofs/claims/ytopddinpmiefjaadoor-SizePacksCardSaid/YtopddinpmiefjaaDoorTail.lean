/- Slices of one-cell elements that lie anywhere in a block of the call's own: cut at the front, appended to. What is kept where some blocks turn. Over any program. -/
import Derived.Test.YtopddinpmiefjaaDoorDig
import Derived.Deep.AppendSrc
import Derived.Deep.Upon
namespace Go.Mny
open Go.RowKit

/-- w' is w but for the blocks of S, and new ones. -/
structure Kept (S : Nat → Prop) (w w' : World) : Prop where
  os : w'.os = w.os
  tape : w'.tape = w.tape
  output : w'.output = w.output
  size : w.heap.size ≤ w'.heap.size
  block : ∀ j, j < w.heap.size → ¬ S j → w'.heap[j]? = w.heap[j]?

section
variable {w w' w2 : World} {S T : Nat → Prop} {D D' B B' e s n c g : Nat} {A : Option Addr} {cs xs : List Value}
theorem Kept.refl (S : Nat → Prop) (w : World) : Kept S w w := ⟨rfl, rfl, rfl, Nat.le_refl _, fun _ _ _ => rfl⟩
theorem Kept.trans (h : Kept S w w') (k : Kept T w' w2) (hT : ∀ j, j < w.heap.size → T j → S j) : Kept S w w2 :=
  ⟨k.os.trans h.os, k.tape.trans h.tape, k.output.trans h.output, Nat.le_trans h.size k.size, fun j hj hs => (k.block j (Nat.lt_of_lt_of_le hj h.size) (fun ht => hs (hT j hj ht))).trans (h.block j hj hs)⟩
theorem Kept.of_grown {row : Option Nat} (h : w.grownBy w' row) : Kept (fun j => row = some j) w w' :=
  ⟨h.os, h.tape, h.output, h.size, fun j hj hn => h.block j hj (fun e => hn e.symm)⟩
theorem Kept.of_below (h : Below D w w') (hD : w.heap.size ≤ D) : Kept S w w' :=
  ⟨h.os, h.tape, h.output, h.size, fun j hj _ => h.block j (by omega)⟩
theorem Kept.below (h : Kept S w w') (hD : D ≤ w.heap.size) (hS : ∀ j, j < D → ¬ S j) : Below D w w' :=
  ⟨h.os, h.tape, h.output, h.size, fun j hj => h.block j (by omega) (hS j hj)⟩
theorem Kept.weak (h : Kept S w w') (hT : ∀ j, j < w.heap.size → S j → T j) : Kept T w w' :=
  ⟨h.os, h.tape, h.output, h.size, fun j hj hn => h.block j hj (fun hs => hn (hT j hj hs))⟩
theorem Kept.drew (h : Kept S w w') : Kept S w w'.drew := ⟨h.os, h.tape, h.output, h.size, h.block⟩
theorem Kept.drewN (h : Kept S w w') (k : Nat) : Kept S w (w'.drewN k) := ⟨h.os, h.tape, h.output, h.size, h.block⟩
theorem Kept.set (h : Kept S w w') (p : Addr) (hp : p.block < w.heap.size → S p.block) (u : Value) : Kept S w (w'.setCell p u) :=
  ⟨h.os, h.tape, h.output, by have := h.size; simpa [World.setCell] using this, fun j hj hn => (Below.heap_setCell _ _ _ _ (fun e => hn (by rw [e]; exact hp (by omega)))).trans (h.block j hj hn)⟩
theorem Kept.alloc (h : Kept S w w') (o : Obj) : Kept S w (w'.alloc o) :=
  ⟨h.os, h.tape, h.output, by have := h.size; simp; omega, fun j hj hn => (Below.heap_alloc _ _ _ (by have := h.size; omega)).trans (h.block j hj hn)⟩
theorem Row.kept (h : Row w D s A n cs) (hD : D ≤ w.heap.size) (hk : Kept S w w') (hne : ∀ g, at_ A = some g → g < D → ¬ S g) : Row w' D s A n cs := by
  refine ⟨h.len, fun hn => ?_⟩
  obtain ⟨g, o, rfl, h1, h2⟩ := h.cells hn
  refine ⟨g, o, rfl, h1, fun j hj => ?_⟩
  rw [World.cell?_of_block (hk.block g (by omega) (hne g rfl h1))]
  exact h2 j hj
theorem Blk.kept {cs : Array Value} (h : Blk w g e cs) (hk : Kept S w w') (hne : ¬ S g) : Blk w' g e cs := (hk.block g h.lt' hne).trans h
theorem Own.kept (h : Own w B e s A n c cs) (hk : Kept S w w') (hne : ∀ g, at_ A = some g → ¬ S g) : Own w' B e s A n c cs :=
  h.keep fun g hg => hk.block g (h.from_ g hg).2 (hne g hg)
end

/-- The slice lies in a block of the call's own (from B on), from somewhere on. -/
structure Tail (w : World) (B e : Nat) (A : Option Addr) (n c : Nat) (cs : List Value) : Prop where
  len : cs.length = n
  le : n ≤ c ∧ c ≤ maxLen
  lies : (A = none ∧ c = 0) ∨ ∃ g o cur, A = some ⟨g, o, none⟩ ∧ B ≤ g ∧ Blk w g e cur ∧ o + c ≤ cur.size ∧ (cur.toList.drop o).take n = cs

section
variable {w w' : World} {S : Nat → Prop} {B B' e n c : Nat} {A : Option Addr} {cs xs : List Value}
theorem Tail.none_ (w : World) (B e : Nat) : Tail w B e none 0 0 [] := ⟨rfl, ⟨Nat.le_refl _, Nat.zero_le _⟩, .inl ⟨rfl, rfl⟩⟩
theorem Tail.from_ (h : Tail w B e A n c cs) : ∀ k, at_ A = some k → B ≤ k ∧ k < w.heap.size := by
  intro k hk
  rcases h.lies with ⟨rfl, _⟩ | ⟨g, o, cur, rfl, h1, h2, _⟩
  · cases hk
  · injection hk with hk; subst hk; exact ⟨h1, h2.lt'⟩
theorem Tail.row (h : Tail w B e A n c cs) : Row w w.heap.size 1 A n cs := by
  refine ⟨by rw [Nat.mul_one]; exact h.len, fun hn => ?_⟩
  rcases h.lies with ⟨_, h0⟩ | ⟨g, o, cur, rfl, h1, h2, h3, h4⟩
  · have := h.le; omega
  · refine ⟨g, o, rfl, h2.lt', fun j hj => ?_⟩
    have hjn : j < n := by rw [h.len] at hj; exact hj
    rw [h2.cell, ← h4, List.getElem?_take, if_pos hjn, List.getElem?_drop, Array.getElem?_toList]
theorem Tail.of_own (h : Own w B e 1 A n c cs) : Tail w B e A n c cs := by
  refine ⟨by have := h.len; omega, h.le, ?_⟩
  rcases h.2 with ⟨hv, h0⟩ | ⟨g, cap, cur, hv, hb, hg, hnc, hcm, hcs, ht⟩
  · injection hv with e1 e2 e3; exact .inl ⟨e1, e3⟩
  · injection hv with e1 e2 e3
    subst e3
    exact .inr ⟨g, 0, cur, e1, hb, hg, by omega, by rw [List.drop_zero, ← ht, Nat.mul_one]⟩
theorem Tail.kept (h : Tail w B e A n c cs) (hk : Kept S w w') (hne : ∀ g, at_ A = some g → ¬ S g) : Tail w' B e A n c cs := by
  refine ⟨h.len, h.le, ?_⟩
  rcases h.lies with h2 | ⟨g, o, cur, rfl, h1, h2, h3⟩
  · exact .inl h2
  · exact .inr ⟨g, o, cur, rfl, h1, h2.kept hk (hne g rfl), h3⟩
theorem Tail.drew (h : Tail w B e A n c cs) : Tail w.drew B e A n c cs := ⟨h.len, h.le, h.lies⟩
theorem Tail.less (h : Tail w B e A n c cs) (hB : B' ≤ B) : Tail w B' e A n c cs := by
  refine ⟨h.len, h.le, ?_⟩
  rcases h.lies with h2 | ⟨g, o, cur, e1, h1, h2⟩
  · exact .inl h2
  · exact .inr ⟨g, o, cur, e1, Nat.le_trans hB h1, h2⟩
theorem Tail.cut (h : Tail w B e A n c cs) {i : Nat} (hi : i ≤ n) : Tail w B e (if c = i then A else A.map (·.add (i * 1))) (n - i) (c - i) (cs.drop i) := by
  have hle := h.le
  refine ⟨by rw [List.length_drop, h.len], ⟨by omega, by omega⟩, ?_⟩
  rcases h.lies with ⟨rfl, h0⟩ | ⟨g, o, cur, rfl, h1, h2, h3, h4⟩
  · exact .inl ⟨by simp, by omega⟩
  · refine .inr ?_
    by_cases hci : c = i
    · rw [if_pos hci]
      refine ⟨g, o, cur, rfl, h1, h2, by omega, ?_⟩
      have : n - i = 0 := by omega
      rw [this, List.take_zero, List.drop_of_length_le (by rw [h.len]; omega)]
    · rw [if_neg hci]
      refine ⟨g, o + i, cur, ?_, h1, h2, by omega, ?_⟩
      · simp only [Option.map_some, Addr.add, Nat.mul_one]
        split
        · rename_i hz; rw [hz]; rfl
        · rfl
      · rw [← h4, List.drop_take, List.drop_drop]
end

theorem src_of {P : Program} {w : World} {t e s : Nat} (hu : P.underlying t = some (.slice e)) {D : Nat} {A : Option Addr} {m c : Nat} {news : List Value} (hrow : Row w D s A m news) (h1 : ∀ u ∈ news, u.oneCell' = true) : Src P s t (.slice A m c) m news w := by
  by_cases h0 : m = 0
  · subst h0
    have hn : news = [] := List.eq_nil_of_length_eq_zero (by simpa using hrow.len)
    subst hn
    cases A with
    | none => exact Src.ofNil w hu c
    | some ad => exact Src.ofSlice w hu ad 0 c [] (by simp) (by simp) (by simp)
  · obtain ⟨g, o, rfl, hg, hc⟩ := hrow.cells (by omega)
    refine Src.ofSlice w hu ⟨g, o, none⟩ m c news hrow.len ?_ h1
    intro j u hu2
    have hj := (List.getElem?_eq_some_iff.1 hu2).1
    have hadd : (⟨g, o, none⟩ : Addr).add j = ⟨g, o + j, none⟩ := by
      unfold Addr.add; split
      · rename_i hz; subst hz; rfl
      · rfl
    rw [hadd, hc j hj]; exact hu2

/-- append, wherever it lies. -/
theorem run_app_tail {P : Program} {w : World} {B t ty e b : Nat} (E : Elt P t e 1 b) {A : Option Addr} {n c : Nat} {xs : List Value} (htl : Tail w B e A n c xs) (hx1 : ∀ u ∈ xs, u.oneCell' = true)
    {D : Nat} {A' : Option Addr} {m c' : Nat} {news : List Value} (hrow : Row w D 1 A' m news) (h1 : ∀ u ∈ news, u.oneCell' = true)
    (hm : n + m ≤ maxLen) (hroom : (n + m) * b ≤ 140737488355328) (hB : B ≤ w.heap.size) :
    ∃ A2 c2 w2, (Builtin.append_ #[t, t] ty #[.slice A n c, .slice A' m c']).run P w = .ok (.slice A2 (n + m) c2) w2 ∧ Tail w2 B e A2 (n + m) c2 (xs ++ news) ∧ w.grownBy w2 (at_ A) ∧
      (at_ A2 = at_ A ∨ at_ A2 = some w.heap.size) := by
  obtain ⟨i, z, hi, hz, e1, e2, e3⟩ := E.info
  have hs := src_of (c := c') E.under hrow h1
  have hs0 := src_of (c := c) E.under htl.row hx1
  have hml : news.length = m := by have := hrow.len; omega
  have hxl := htl.len
  by_cases hr : n + m ≤ c
  · rcases htl.lies with ⟨rfl, h0⟩ | ⟨g, o, cur, rfl, hb, hg, hoc, ht⟩
    · have hn0 : n = 0 := by omega
      have hm0 : m = 0 := by omega
      subst hn0; subst hm0; subst h0
      have hn : news = [] := List.eq_nil_of_length_eq_zero hml
      have hx : xs = [] := List.eq_nil_of_length_eq_zero hxl
      subst hn; subst hx
      exact ⟨none, 0, w, run_append_nothing w t t ty e i E.under hi none 0 0 (Nat.le_refl _) _ (by rw [e1]; exact hs), Tail.none_ w B e, World.grownBy.refl w _, .inl rfl⟩
    · have hst := run_storeCells_at P g (o + n * i.size) e news 0 cur w hg (by rw [e1]; omega) h1
      simp only [Nat.add_zero] at hst
      rw [e1, Nat.mul_one] at hst
      have hk := E.under
      refine ⟨some ⟨g, o, none⟩, c, w.setRow g (cur.toList.take (o + n) ++ news ++ cur.toList.drop (o + n + news.length)).toArray, ?_, ⟨by rw [List.length_append]; omega, ⟨hr, htl.le.2⟩, .inr ⟨g, o, _, rfl, hb, setRow_heap w g cur _ e _ hg, ?_, ?_⟩⟩, ⟨rfl, rfl, rfl, by simp, fun k _ hk => setRow_other w g k _ (fun e => hk (by simp [at_, e]))⟩, .inl rfl⟩
      · have hc1 := hs.cells
        have hl1 := hs.len
        simp [Builtin.append_, run_underlying hk, sizeOf, typeInfo, hi, e1, hl1, hr, hc1, Addr.add_lit, hst]
      · simp only [List.size_toArray, List.length_append, List.length_take, List.length_drop, Array.length_toList]
        omega
      · simp only
        have hX : (cur.toList.take (o + n)).drop o = xs := by rw [List.drop_take, ← ht]; congr 1; omega
        have hl : (cur.toList.take (o + n)).length = o + n := by rw [List.length_take, Array.length_toList]; omega
        rw [List.append_assoc, List.drop_append_of_le_length (by omega), hX, ← List.append_assoc]
        exact List.take_left' (by rw [List.length_append]; omega)
  · have hsmall : n + m ≤ 9223372036854775807 := by simp only [maxLen] at hm; omega
    have hgr := run_append_grow_src (P := P) w t t ty e i z E.under hi hz A n c xs (by rw [e1]; exact hs0.cellsD) (.slice A' m c') m news (by rw [e1]; exact hs) (by omega) (by omega) (growslice_fits (by omega) (by rw [e2]; exact hroom))
    have hge := grownCap_ge w (n + m) c e
    refine ⟨_, _, _, hgr, ⟨by rw [List.length_append]; omega, ⟨hge, grownCap_le_maxLen w (n + m) c e hm⟩, .inr ⟨w.heap.size, 0, _, rfl, hB, heap_alloc_new w.drew _, ?_, ?_⟩⟩, ⟨rfl, rfl, rfl, by simp, fun k hk _ => heap_alloc_old w.drew _ hk⟩, .inr rfl⟩
    · simp only [Array.size_append, List.size_toArray, size_zeroCells, e3, List.length_append]
      omega
    · simp only [Array.toList_append, List.drop_zero]
      exact List.take_left' (by rw [List.length_append]; omega)

theorem app_tail {P : Program} {t e b : Nat} (E : Elt P t e 1 b) {w : World} {ops : Array Oper} {rest : List Oper} {o : Oper} {a : Act} {Q : Exit → Act → World → Prop} (hgd : o.guard = none)
    (x y : Operand) (ho : o.op = .call { callee := .builtin .append, args := #[x, y], argTypes := #[t, t] })
    {B : Nat} {A : Option Addr} {n c : Nat} {xs : List Value} (hx : a.eval x = .slice A n c) (htl : Tail w B e A n c xs) (hx1 : ∀ u ∈ xs, u.oneCell' = true)
    {D : Nat} {A' : Option Addr} {m c' : Nat} {news : List Value} (hy : a.eval y = .slice A' m c') (hrow : Row w D 1 A' m news) (h1 : ∀ u ∈ news, u.oneCell' = true)
    (hm : n + m ≤ maxLen) (hroom : (n + m) * b ≤ 140737488355328) (hB : B ≤ w.heap.size)
    (k : ∀ A2 c2 w2, Tail w2 B e A2 (n + m) c2 (xs ++ news) → w.grownBy w2 (at_ A) → (at_ A2 = at_ A ∨ at_ A2 = some w.heap.size) → wpList P ops Q rest (a.put o.dst (.slice A2 (n + m) c2)) w2) :
    wpList P ops Q (o :: rest) a w := by
  refine wpList_plain hgd fun K hK => ?_
  obtain ⟨A2, c2, w2, hr, g1, g2, g3⟩ := run_app_tail (P := P) (ty := o.type) E htl hx1 (c' := c') hrow h1 hm hroom hB
  unfold Oper.wp execOp
  simp only [ho, resolve, invoke, builtin, Sem.run_bind, Sem.run_pure, Result.andThen_ok, List.map_toArray, List.map_cons, List.map_nil, hx, hy, hr]
  exact hK _ _ (k A2 c2 w2 g1 g2 g3)

/-- a cut at the front, of a slice that lies anywhere -/
theorem cut_tail {P : Program} {t e b : Nat} (E : Elt P t e 1 b) {w : World} {ops : Array Oper} {rest : List Oper} {o : Oper} {a : Act} {Q : Exit → Act → World → Prop} (hw : Region.wanted o (yielded ops a.tmps) = true)
    (x lo : Operand) (ho : o.op = .slice t x (some lo) none none) {A : Option Addr} {n c : Nat} (hx : a.eval x = .slice A n c) {i : Nat} {kk : IntKind} (hl : a.eval lo = .int kk (i : Int))
    {B : Nat} {cs : List Value} (htl : Tail w B e A n c cs) (hi : i ≤ n)
    (k : ∀ A2, at_ A2 = at_ A → Tail w B e A2 (n - i) (c - i) (cs.drop i) → wpList P ops Q rest (a.put o.dst (.slice A2 (n - i) (c - i))) w) : wpList P ops Q (o :: rest) a w := by
  refine op_step hw fun K hK => ?_
  have hic : i ≤ c := Nat.le_trans hi htl.le.1
  have hr : (Instr.sliceAt t (.slice A n c) (some (.int kk (i : Int))) none none).run P w = .ok (.slice (if c = i then A else A.map (·.add (i * 1))) (n - i) (c - i)) w := by
    simp [Instr.sliceAt, Instr.slice, Instr.sliceBounds, Instr.sliceBound, asIntOf, run_underlying E.under, E.sizeE w, Sem.run_bind, hi]
  unfold Oper.wp execOp
  simp only [ho, hx, hl, Sem.run_bind, Sem.run_pure, Result.andThen_ok, Option.map_none, Option.map_some, hr]
  exact hK _ _ (k _ (at_part A c i _) (htl.cut hi))
end Go.Mny
