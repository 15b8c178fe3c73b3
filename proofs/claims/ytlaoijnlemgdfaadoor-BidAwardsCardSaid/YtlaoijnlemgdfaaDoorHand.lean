/- Steps of a region that is walked by hand: append onto a full slice, a store of a whole array. Over any program. -/
import Derived.Test.YtlaoijnlemgdfaaDoorTail
import Derived.Deep.RegionHeld3
namespace Go.Mny
open Go.RowKit
/-- append onto a slice that is full: a new one, whatever the old one's block. -/
theorem run_app_full {P : Program} {w : World} {t ty e b : Nat} (E : Elt P t e 1 b) {D D' : Nat} {A : Option Addr} {n : Nat} {xs : List Value} (hold : Row w D 1 A n xs) (hx1 : ∀ u ∈ xs, u.oneCell' = true)
    {A' : Option Addr} {m c' : Nat} {news : List Value} (hrow : Row w D' 1 A' m news) (h1 : ∀ u ∈ news, u.oneCell' = true)
    (hm0 : 0 < m) (hm : n + m ≤ maxLen) (hroom : (n + m) * b ≤ 140737488355328) :
    ∃ g c2 w2, (Builtin.append_ #[t, t] ty #[.slice A n n, .slice A' m c']).run P w = .ok (.slice (some ⟨g, 0, none⟩) (n + m) c2) w2 ∧ Own w2 w.heap.size e 1 (some ⟨g, 0, none⟩) (n + m) c2 (xs ++ news) ∧ Below w.heap.size w w2 := by
  obtain ⟨i, z, hi, hz, e1, e2, e3⟩ := E.info
  have hs := src_of (c := c') E.under hrow h1
  have hs0 := src_of (c := n) E.under hold hx1
  have hml : news.length = m := by have := hrow.len; omega
  have hxl : xs.length = n := by have := hold.len; omega
  have hsmall : n + m ≤ 9223372036854775807 := by simp only [maxLen] at hm; omega
  have hgr := run_append_grow_src (P := P) w t t ty e i z E.under hi hz A n n xs (by rw [e1]; exact hs0.cellsD) (.slice A' m c') m news (by rw [e1]; exact hs) (by omega) (by omega) (growslice_fits (by omega) (by rw [e2]; exact hroom))
  have hge := grownCap_ge w (n + m) n e
  refine ⟨_, _, _, hgr, ⟨by rw [List.length_append]; omega, .inr ⟨w.heap.size, _, _, rfl, Nat.le_refl _, heap_alloc_new w.drew _, hge, grownCap_le_maxLen w (n + m) n e hm, ?_, ?_⟩⟩, ((Below.refl _ _).drew).alloc (Nat.le_refl _) _⟩
  · simp only [Array.size_append, List.size_toArray, size_zeroCells, e3, List.length_append]
    omega
  · simp only [Array.toList_append, Nat.mul_one]
    exact List.take_left' (by rw [List.length_append]; omega)
theorem app_full_wp {P : Program} {t e b : Nat} (E : Elt P t e 1 b) {w : World} {o : Oper} {a : Act} {K : Act → World → Prop} {Q : Exit → Act → World → Prop}
    (x y : Operand) (ho : o.op = .call { callee := .builtin .append, args := #[x, y], argTypes := #[t, t] })
    {D D' : Nat} {A : Option Addr} {n : Nat} {xs : List Value} (hx : a.eval x = .slice A n n) (hold : Row w D 1 A n xs) (hx1 : ∀ u ∈ xs, u.oneCell' = true)
    {A' : Option Addr} {m c' : Nat} {news : List Value} (hy : a.eval y = .slice A' m c') (hrow : Row w D' 1 A' m news) (h1 : ∀ u ∈ news, u.oneCell' = true)
    (hm0 : 0 < m) (hm : n + m ≤ maxLen) (hroom : (n + m) * b ≤ 140737488355328)
    (k : ∀ g c2 w2, Own w2 w.heap.size e 1 (some ⟨g, 0, none⟩) (n + m) c2 (xs ++ news) → Below w.heap.size w w2 → K (a.put o.dst (.slice (some ⟨g, 0, none⟩) (n + m) c2)) w2) : o.wp P a w K Q := by
  obtain ⟨g, c2, w2, hr, g1, g2⟩ := run_app_full (P := P) (ty := o.type) E hold hx1 (c' := c') hrow h1 hm0 hm hroom
  unfold Oper.wp execOp
  simp only [ho, resolve, invoke, builtin, Sem.run_bind, Sem.run_pure, Result.andThen_ok, List.map_toArray, List.map_cons, List.map_nil, hx, hy, hr]
  exact k g c2 w2 g1 g2
theorem store_arr_wp {P : Program} {t e n : Nat} {k : IntKind} (T : ArrI P t e n k) {w : World} {o : Oper} {a : Act} {K : Act → World → Prop} {Q : Exit → Act → World → Prop}
    (x y : Operand) (ho : o.op = .store t x y) {g e' : Nat} (hx : a.eval x = .pointer (some ⟨g, 0, none⟩)) {l : List Int} (hy : a.eval y = .agg (cellsOf k l)) (hl : l.length = n)
    {cur : Array Value} (hb : Blk w g e' cur) (hc : cur.size = n)
    (h : ∀ w2, Blk w2 g e' (cellsOf k l) → w.grownBy w2 (some g) → K (a.put o.dst undef) w2) : o.wp P a w K Q := by
  obtain ⟨w2, hr, h1, h2⟩ := run_store_arr T hb hc l hl
  unfold Oper.wp execOp
  simp only [ho, hx, hy, Instr.storeAt, Instr.sureAddr, Sem.run_bind, Sem.run_pure, Result.andThen_ok, hr]
  exact h w2 h1 h2
theorem Row.of_blk {w : World} {g e : Nat} {k : IntKind} {l : List Int} (h : Blk w g e (cellsOf k l)) : Row w w.heap.size 1 (some ⟨g, 0, none⟩) l.length (l.map (Value.int k)) :=
  Blk.row h h.lt' (by simp) (fun j hj => by rw [Nat.zero_add, cellsOf_get]; simp)
/-- x[:j:j] -/
theorem slice3_step {P : Program} {t e s b : Nat} (E : Elt P t e s b) {w : World} {ops : Array Oper} {rest : List Oper} {o : Oper} {a : Act} {Q : Exit → Act → World → Prop} (hw : Region.wanted o (yielded ops a.tmps) = true)
    (x hi mx : Operand) (ho : o.op = .slice t x none (some hi) (some mx)) {A : Option Addr} {n c : Nat} (hx : a.eval x = .slice A n c) {j : Nat} {k1 k2 : IntKind} (hh : a.eval hi = .int k1 (j : Int)) (hm : a.eval mx = .int k2 (j : Int))
    {D : Nat} {cs : List Value} (hrow : Row w D s A n cs) (hj : j ≤ n) (hn : n ≤ c)
    (k : ∀ A2, at_ A2 = at_ A → Row w D s A2 j (cs.take (j * s)) → wpList P ops Q rest (a.put o.dst (.slice A2 j j)) w) : wpList P ops Q (o :: rest) a w := by
  refine op_step hw fun K hK => ?_
  have hjc : j ≤ c := Nat.le_trans hj hn
  have hr : (Instr.sliceAt t (.slice A n c) none (some (.int k1 (j : Int))) (some (.int k2 (j : Int)))).run P w = .ok (.slice (if j = 0 then A else A.map (·.add (0 * s))) j j) w := by
    simp [Instr.sliceAt, Instr.slice, Instr.sliceBounds, Instr.sliceBound, asIntOf, run_underlying E.under, E.sizeE w, Sem.run_bind, hjc]
  unfold Oper.wp execOp
  simp only [ho, hx, hh, hm, Sem.run_bind, Sem.run_pure, Result.andThen_ok, Option.map_none, Option.map_some, hr]
  refine hK _ _ (k _ (at_part A j 0 (0 * s)) ?_)
  have hp := hrow.part (i := 0) (j := j) (cap := c) (Nat.zero_le _) hj hn
  rw [Nat.sub_zero, Nat.zero_mul, List.drop_zero] at hp
  refine ⟨hp.len, fun h0 => ?_⟩
  obtain ⟨g, o', e1, e2, e3⟩ := hp.cells h0
  refine ⟨g, o', ?_, e2, e3⟩
  have h1 : ¬ (j = 0) := by omega
  have h2 : ¬ (c = 0) := by omega
  rw [if_neg h2] at e1
  rw [if_neg h1, Nat.zero_mul]; exact e1
end Go.Mny
