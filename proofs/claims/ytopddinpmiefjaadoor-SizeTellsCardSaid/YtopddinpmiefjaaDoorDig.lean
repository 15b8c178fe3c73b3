/- Elements of several cells in a slice: loading, storing; slices of digests. Over any program. -/
import Derived.Test.YtopddinpmiefjaaDoorSl
import Derived.Test.YtopddinpmiefjaaDoorOpen
import Derived.Deep.MidRow
import Derived.Deep.RegionHeld3
namespace Go.Mny
open Go.RowKit

/-- Type t is an array or a struct of s cells. -/
structure RowT (P : Program) (t s : Nat) : Prop where
  row : ∃ d : TypeDesc, P.underlying t = some d ∧ d.isRow = true
  size : (P.info? t).map (·.size) = some s
theorem ArrI.rowT {P : Program} {t e n : Nat} {k : IntKind} (T : ArrI P t e n k) : RowT P t n := ⟨⟨_, T.under, rfl⟩, T.size⟩

section
variable {P : Program} {t s : Nat}
/-- an element of a slice: where its cells lie -/
theorem Row.elem {w : World} {D s : Nat} {A : Option Addr} {n : Nat} {cs : List Value} (h : Row w D s A n cs) {i : Nat} (hi : i < n) :
    ∃ g o, A = some ⟨g, o, none⟩ ∧ g < D ∧ Hid (w.rangeAt g (o + i * s) ((cs.drop (i * s)).take s)) := by
  obtain ⟨g, o, e1, e2, e3⟩ := h.cells (by omega)
  refine ⟨g, o, e1, e2, fun j v hv => ?_⟩
  have hj := (List.getElem?_eq_some_iff.1 hv).1
  rw [List.length_take, List.length_drop] at hj
  rw [List.getElem?_take, if_pos (by omega), List.getElem?_drop] at hv
  have hlt := (List.getElem?_eq_some_iff.1 hv).1
  rw [Nat.add_assoc, e3 _ hlt, hv]
theorem load_mid (T : RowT P t s) {w : World} {ops : Array Oper} {rest : List Oper} {o : Oper} {a : Act} {Q : Exit → Act → World → Prop} (hw : Region.wanted o (yielded ops a.tmps) = true)
    (x : Operand) (ho : o.op = .load t x) {g q : Nat} (hx : a.eval x = .pointer (some ⟨g, q, none⟩)) {cs : List Value} (hc : w.rangeAt g q cs) (hl : cs.length = s)
    (h : wpList P ops Q rest (a.put o.dst (.agg cs.toArray)) w) : wpList P ops Q (o :: rest) a w := by
  obtain ⟨d, h1, h2⟩ := T.row
  exact op_step hw fun K hK => wp_load_mid t x ho g q hx cs d hc h1 h2 (by rw [hl]; exact T.size) (hK _ _ h)
theorem load_ints {e : Nat} {k : IntKind} (T : ArrI P t e s k) {w : World} {ops : Array Oper} {rest : List Oper} {o : Oper} {a : Act} {Q : Exit → Act → World → Prop} (hw : Region.wanted o (yielded ops a.tmps) = true)
    (x : Operand) (ho : o.op = .load t x) {g q : Nat} (hx : a.eval x = .pointer (some ⟨g, q, none⟩)) {l : List Int} (hc : w.rangeAt g q (l.map (Value.int k))) (hl : l.length = s)
    (h : wpList P ops Q rest (a.put o.dst (.agg (cellsOf k l))) w) : wpList P ops Q (o :: rest) a w :=
  load_mid T.rowT hw x ho hx hc (by rw [List.length_map]; exact hl) h
/-- the cells of block g from q on are these now -/
def splice (cur : Array Value) (q : Nat) (vs : List Value) : Array Value := (cur.toList.take q ++ vs ++ cur.toList.drop (q + vs.length)).toArray
theorem splice_size {cur : Array Value} {q : Nat} {vs : List Value} (h : q + vs.length ≤ cur.size) : (splice cur q vs).size = cur.size := by
  simp [splice]; omega
theorem run_store_mid {P : Program} {t s : Nat} (hi : (P.info? t).map (·.size) = some s) {w : World} {g e' q : Nat} {cur : Array Value} (hb : Blk w g e' cur) (vs : List Value) (hl : vs.length = s) (hq : q + vs.length ≤ cur.size) (h1 : ∀ v ∈ vs, v.oneCell' = true) :
    (storeVar t ⟨g, q, none⟩ (.agg vs.toArray)).run P w = .ok () (w.setRow g (splice cur q vs)) ∧ Blk (w.setRow g (splice cur q vs)) g e' (splice cur q vs) ∧ w.grownBy (w.setRow g (splice cur q vs)) (some g) := by
  have hs := run_storeCells_at (P := P) g q e' vs 0 cur w hb (by omega) h1
  simp only [Nat.add_zero] at hs
  refine ⟨?_, setRow_heap w g cur _ e' (0, 0) hb, rfl, rfl, rfl, by simp, fun j _ hj => setRow_other w g j _ (fun h => hj (by rw [h]))⟩
  cases hqq : P.info? t with
  | none => simp [hqq] at hi
  | some i =>
    have hs2 : i.size = s := by simpa [hqq] using hi
    simp [storeVar, Sem.run_bind, sizeOf, typeInfo, hqq, hs2, Value.cells, hl, hs, splice]
theorem store_mid (T : RowT P t s) {w : World} {ops : Array Oper} {rest : List Oper} {o : Oper} {a : Act} {Q : Exit → Act → World → Prop} (hw : Region.wanted o (yielded ops a.tmps) = true)
    (x y : Operand) (ho : o.op = .store t x y) {g e' q : Nat} (hx : a.eval x = .pointer (some ⟨g, q, none⟩)) {vs : List Value} (hy : a.eval y = .agg vs.toArray) (hl : vs.length = s) (h1 : ∀ v ∈ vs, v.oneCell' = true)
    {cur : Array Value} (hb : Blk w g e' cur) (hq : q + vs.length ≤ cur.size)
    (h : ∀ w2, Blk w2 g e' (splice cur q vs) → w.grownBy w2 (some g) → wpList P ops Q rest (a.put o.dst undef) w2) : wpList P ops Q (o :: rest) a w := by
  refine op_step hw fun K hK => ?_
  obtain ⟨hr, h2, h3⟩ := run_store_mid T.size hb vs hl hq h1
  unfold Oper.wp execOp
  simp only [ho, hx, hy, Instr.storeAt, Instr.sureAddr, Sem.run_bind, Sem.run_pure, Result.andThen_ok, hr]
  exact hK _ _ (h _ h2 h3)
end

/-- an own slice's block -/
theorem Own.blk {w : World} {B e s n c : Nat} {A : Option Addr} {cs : List Value} (h : Own w B e s A n c cs) (hn : 0 < n) :
    ∃ g cur, A = some ⟨g, 0, Option.none⟩ ∧ B ≤ g ∧ Hid (Blk w g e cur) ∧ n ≤ c ∧ c ≤ maxLen ∧ cur.size = c * s ∧ cur.toList.take (n * s) = cs := by
  rcases h.2 with ⟨hv, h0⟩ | ⟨g, cap, cur, hv, hb, hg, hnc, hcm, hcs, ht⟩
  · omega
  · injection hv with e1 e2 e3
    subst e3
    exact ⟨g, cur, e1, hb, hg, hnc, hcm, hcs, ht⟩
theorem Own.of_blk {w : World} {B e s n c g : Nat} {cur : Array Value} {cs : List Value} (hb : Blk w g e cur) (hB : B ≤ g) (hnc : n ≤ c) (hc : c ≤ maxLen) (hs : cur.size = c * s) (ht : cur.toList.take (n * s) = cs) : Own w B e s (some ⟨g, 0, Option.none⟩) n c cs := by
  refine ⟨?_, .inr ⟨g, c, cur, rfl, hB, hb, hnc, hc, hs, ht⟩⟩
  rw [← ht, List.length_take, Array.length_toList, hs]
  exact Nat.min_eq_left (Nat.mul_le_mul_right s hnc)
theorem Own.below' {w w' : World} {B D e s n c : Nat} {A : Option Addr} {cs : List Value} (h : Own w B e s A n c cs) (hb : Below D w w') {g : Nat} (hg : g < D) (hA : at_ A = some g := by rfl) : Own w' B e s A n c cs :=
  h.keep fun q hq => hb.block q (by rw [hA] at hq; injection hq with e; omega)
/-- one element of an own slice is replaced -/
def putAt (s i : Nat) (cs vs : List Value) : List Value := cs.take (i * s) ++ vs ++ cs.drop ((i + 1) * s)
theorem store_own {P : Program} {t e s : Nat} (T : RowT P t s) {w : World} {ops : Array Oper} {rest : List Oper} {o : Oper} {a : Act} {Q : Exit → Act → World → Prop} (hw : Region.wanted o (yielded ops a.tmps) = true)
    (x y : Operand) (ho : o.op = .store t x y) {g q B n c i : Nat} {cs : List Value} (hown : Own w B e s (some ⟨g, 0, none⟩) n c cs) (hi : i < n) (hq : q = i * s)
    (hx : a.eval x = .pointer (some ⟨g, q, none⟩)) {vs : List Value} (hy : a.eval y = .agg vs.toArray) (hl : vs.length = s) (h1 : ∀ v ∈ vs, v.oneCell' = true)
    (h : ∀ w2, Own w2 B e s (some ⟨g, 0, none⟩) n c (putAt s i cs vs) → w.grownBy w2 (some g) → wpList P ops Q rest (a.put o.dst undef) w2) : wpList P ops Q (o :: rest) a w := by
  subst hq
  obtain ⟨g', cur, e1, hB, hb, hnc, hcm, hcs, ht⟩ := hown.blk (by omega)
  injection e1 with e1; injection e1 with e1; subst e1
  have hle : (i + 1) * s ≤ n * s := Nat.mul_le_mul_right s hi
  have hle2 : n * s ≤ c * s := Nat.mul_le_mul_right s hnc
  have hsucc : (i + 1) * s = i * s + s := Nat.succ_mul i s
  have hfit : i * s + vs.length ≤ cur.size := by omega
  refine store_mid T hw x y ho hx hy hl h1 hb.out hfit ?_
  intro w2 b2 g2
  refine h w2 (Own.of_blk b2 hB hnc hcm (by rw [splice_size hfit]; exact hcs) ?_) g2
  subst ht
  unfold splice putAt
  obtain ⟨k, hk⟩ : ∃ k, n * s = i * s + s + k := ⟨n * s - (i * s + s), by omega⟩
  have hX : (cur.toList.take (i * s) ++ vs).length = i * s + s := by rw [List.length_append, List.length_take, Array.length_toList, hl]; omega
  rw [hk, hl, hsucc, List.take_take, Nat.min_eq_left (by omega)]
  generalize cur.toList.take (i * s) ++ vs = X at hX ⊢
  simp only
  rw [← hX, List.take_length_add_append, List.drop_take, Nat.add_sub_cancel_left]
theorem Row.lit_full (w : World) (e : Nat) (cur : Array Value) (n s g : Nat) (cs : List Value) (hg : g = w.heap.size) (h : cur.toList = cs) (hn : cs.length = n * s) : Row (w.alloc (.cells cur e)) (w.alloc (.cells cur e)).heap.size s (some ⟨g, 0, Option.none⟩) n cs := by
  subst hg; subst h
  exact Blk.row (Blk.new w e cur) (by simp) hn (fun j hj => by simp)
theorem yields_eql {P : Program} {t e n : Nat} {k : IntKind} (T : ArrI P t e n k) (hg : P.eqGuardType P.depth t = false) {ops : Array Oper} {S : World → Prop} {o : Oper} {a : Act} (hw : Region.wanted o (yielded ops a.tmps) = true)
    (x y : Operand) (yt : TypeId) (ho : o.op = .binOp .eql t x y yt) {l1 l2 : List Int} (hx : a.eval x = .agg (cellsOf k l1)) (hy : a.eval y = .agg (cellsOf k l2)) (h1 : l1.length = n) (h2 : l2.length = n)
    {b : Bool} (hb : b = decide (l1 = l2)) : YieldsIf P ops S o (.bool b) a := by
  refine .inl ⟨hw, fun w _ => ?_⟩
  have e1 : (binOp .eql t (.agg (cellsOf k l1)) (.agg (cellsOf k l2))).run P w = .ok (.bool b) w := by
    rw [run_eql_struct, run_eq_arr T w 9998 l1 l2 h1 h2, hb]; rfl
  have e2 : (eqGuard .eql t x y (.agg (cellsOf k l1)) (.agg (cellsOf k l2))).run P w = .ok () w := by
    unfold eqGuard; simp [run_program, Sem.run_bind, hg]
  unfold execOp
  simp only [ho, hx, hy, Sem.run_bind, Sem.run_pure, Result.andThen_ok, e1, e2]
theorem yields_load {P : Program} {t e n : Nat} {k : IntKind} (T : ArrI P t e n k) {ops : Array Oper} {S : World → Prop} {o : Oper} {a : Act} (hw : Region.wanted o (yielded ops a.tmps) = true)
    (x : Operand) (ho : o.op = .load t x) {g q : Nat} (hx : a.eval x = .pointer (some ⟨g, q, none⟩)) {l : List Int} (hl : l.length = n) (hS : ∀ w, S w → w.rangeAt g q (l.map (Value.int k))) : YieldsIf P ops S o (.agg (cellsOf k l)) a :=
  yieldsIf_load_mid hw t x ho g q hx _ _ hS T.under rfl (by rw [List.length_map, hl]; exact T.size)
theorem yields_of {P : Program} {ops : Array Oper} {S : World → Prop} {o : Oper} {a : Act} {v : Value} (hw : Region.wanted o (yielded ops a.tmps) = true) (h : ∀ w, (execOp a.eval o).run P w = .ok (.value v) w) : YieldsIf P ops S o v a := .inl ⟨hw, fun w _ => h w⟩
theorem Blk.range {w : World} {g e : Nat} {k : IntKind} {l : List Int} (h : Blk w g e (cellsOf k l)) : w.rangeAt g 0 (l.map (Value.int k)) := fun j v hv => by
  rw [Nat.zero_add, h.cell]; simpa [cellsOf] using hv
theorem at_part (A : Option Addr) (c i k : Nat) : at_ (if c = i then A else A.map (·.add k)) = at_ A := by
  split
  · rfl
  · cases A with
    | none => rfl
    | some a => simp [at_, Addr.add]; split <;> rfl
/-- a cut, and that it lies in the same block -/
theorem slice_stepA {P : Program} {t e s b : Nat} (E : Elt P t e s b) {w : World} {ops : Array Oper} {rest : List Oper} {o : Oper} {a : Act} {Q : Exit → Act → World → Prop} (hw : Region.wanted o (yielded ops a.tmps) = true)
    (x : Operand) (lo hi : Option Operand) (ho : o.op = .slice t x lo hi none) {A : Option Addr} {n c : Nat} (hx : a.eval x = .slice A n c) {i j : Nat} (hl : Bnd a lo i 0) (hh : Bnd a hi j n)
    {D : Nat} {cs : List Value} (hrow : Row w D s A n cs) (hij : i ≤ j) (hj : j ≤ n) (hn : n ≤ c)
    (k : ∀ A2, at_ A2 = at_ A → Row w D s A2 (j - i) ((cs.take (j * s)).drop (i * s)) → wpList P ops Q rest (a.put o.dst (.slice A2 (j - i) (c - i))) w) : wpList P ops Q (o :: rest) a w := by
  refine op_step hw fun K hK => ?_
  have hr : (Instr.sliceAt t (.slice A n c) (lo.map a.eval) (hi.map a.eval) none).run P w = .ok (.slice (if c = i then A else A.map (·.add (i * s))) (j - i) (c - i)) w := by
    have h1 : (lo.map a.eval = none ∧ i = 0) ∨ ∃ kd, lo.map a.eval = some (.int kd (i : Int)) := by
      cases hl with
      | out d => exact .inl ⟨rfl, rfl⟩
      | at_ h => exact .inr ⟨_, congrArg some h⟩
    have h2 : (hi.map a.eval = none ∧ j = n) ∨ ∃ kd, hi.map a.eval = some (.int kd (j : Int)) := by
      cases hh with
      | out d => exact .inl ⟨rfl, rfl⟩
      | at_ h => exact .inr ⟨_, congrArg some h⟩
    have hjc : j ≤ c := Nat.le_trans hj hn
    rcases h1 with ⟨e1, rfl⟩ | ⟨k1, e1⟩ <;> rcases h2 with ⟨e2, rfl⟩ | ⟨k2, e2⟩ <;> rw [e1, e2] <;>
      simp [Instr.sliceAt, Instr.slice, Instr.sliceBounds, Instr.sliceBound, asIntOf, run_underlying E.under, E.sizeE w, Sem.run_bind, hij, hjc]
  unfold Oper.wp execOp
  simp only [ho, hx, Sem.run_bind, Sem.run_pure, Result.andThen_ok, Option.map_none, hr]
  exact hK _ _ (k _ (at_part A c i _) (hrow.part hij hj hn))
/-- a row whose block is not the one that turns -/
theorem Row.far {w w' : World} {D D' s n : Nat} {A : Option Addr} {cs : List Value} {row : Option Nat} (h : Row w D s A n cs) (hD : D ≤ w.heap.size) (hg : w.grownBy w' row) (hne : ∀ g, at_ A = some g → row ≠ some g) (hD' : w'.heap.size ≤ D') : Row w' D' s A n cs := by
  refine ⟨h.len, fun hn => ?_⟩
  obtain ⟨g, o, rfl, h1, h2⟩ := h.cells hn
  have hs := hg.size
  refine ⟨g, o, rfl, by omega, fun j hj => ?_⟩
  rw [World.cell?_of_block (hg.block g (by omega) (fun e => hne g rfl e.symm))]
  exact h2 j hj
/-! ### lists of lists of one length -/
theorem flat_len {α : Type} {s : Nat} : ∀ (L : List (List α)), (∀ l ∈ L, l.length = s) → L.flatten.length = L.length * s
  | [], _ => by simp
  | l :: L, h => by rw [List.flatten_cons, List.length_append, flat_len L (fun x hx => h x (by simp [hx])), h l (by simp), List.length_cons, Nat.succ_mul]; omega
theorem flat_drop {α : Type} {s : Nat} : ∀ (L : List (List α)) (i : Nat), (∀ l ∈ L, l.length = s) → L.flatten.drop (i * s) = (L.drop i).flatten
  | L, 0, _ => by simp
  | [], i + 1, _ => by simp
  | l :: L, i + 1, h => by
    rw [List.flatten_cons, List.drop_succ_cons, ← flat_drop L i (fun x hx => h x (by simp [hx])), Nat.succ_mul, Nat.add_comm (i * s) s, ← List.drop_drop, List.drop_left' (h l (by simp))]
theorem flat_take {α : Type} {s : Nat} : ∀ (L : List (List α)) (i : Nat), (∀ l ∈ L, l.length = s) → L.flatten.take (i * s) = (L.take i).flatten
  | L, 0, _ => by simp
  | [], i + 1, _ => by simp
  | l :: L, i + 1, h => by
    rw [List.flatten_cons, List.take_succ_cons, List.flatten_cons, ← flat_take L i (fun x hx => h x (by simp [hx])), List.take_append, h l (by simp), List.take_of_length_le (l := l) (by rw [h l (by simp)]; exact Nat.le_trans (by omega) (Nat.mul_le_mul_right s (Nat.le_add_left 1 i)))]
    congr 2
    rw [Nat.succ_mul]; omega
theorem flat_at {α : Type} {s : Nat} {L : List (List α)} (h : ∀ l ∈ L, l.length = s) {i : Nat} {d : List α} (hd : L[i]? = some d) : (L.flatten.drop (i * s)).take s = d := by
  obtain ⟨hi, rfl⟩ := List.getElem?_eq_some_iff.1 hd
  rw [flat_drop L i h, List.drop_eq_getElem_cons hi, List.flatten_cons, List.take_append_of_le_length (by rw [h _ (List.getElem_mem hi)]; exact Nat.le_refl _), List.take_of_length_le (by rw [h _ (List.getElem_mem hi)]; exact Nat.le_refl _)]
theorem flat_put {k : IntKind} {s : Nat} {L : List (List Int)} (h : ∀ l ∈ L, l.length = s) {i : Nat} (hi : i < L.length) (d : List Int) :
    putAt s i (L.flatten.map (Value.int k)) (d.map (Value.int k)) = (L.set i d).flatten.map (Value.int k) := by
  unfold putAt
  rw [← List.map_take, ← List.map_drop, ← List.map_append, ← List.map_append, flat_take L i h, flat_drop L (i + 1) h, List.set_eq_take_append_cons_drop, if_pos hi, List.flatten_append, List.flatten_cons, List.append_assoc]
end Go.Mny
namespace Go.Proofs.YtopddinpmiefjaaDoor
open Go.RowKit Go.Mny
/-- a slice of digests -/
theorem Sh.digests {w : World} {D m : Nat} {v : Value} (h : (Sh.slice 32 (.arr 32 1 (.int .u8))).ok w D m [v]) :
    ∃ (A : Option Addr) (n c : Nat) (L : List (List Int)), v = .slice A n c ∧ n ≤ c ∧ c ≤ maxLen ∧ Row w D 32 A n (L.flatten.map (Value.int .u8)) ∧ L.length = n ∧ (∀ l ∈ L, l.length = 32 ∧ ∀ z ∈ l, (Lit.int .u8 z).wf = true) ∧ n + 1 ≤ m := by
  obtain ⟨A, n, c, es, f, hv, h1, h2, h3, h4, h5⟩ := h
  have key : ∀ (n : Nat) (es : List Value), es.length = n * 32 → (∀ i, i < n → ∃ l : List Int, (es.drop (i * 32)).take 32 = l.map (Value.int .u8) ∧ l.length = 32 ∧ ∀ z ∈ l, (Lit.int .u8 z).wf = true) →
      ∃ L : List (List Int), es = L.flatten.map (Value.int .u8) ∧ L.length = n ∧ ∀ l ∈ L, l.length = 32 ∧ ∀ z ∈ l, (Lit.int .u8 z).wf = true := by
    intro n
    induction n with
    | zero => intro es he _; exact ⟨[], by simpa using he, rfl, by simp⟩
    | succ n ih =>
      intro es he hh
      obtain ⟨l, e1, e2, e3⟩ := hh 0 (by omega)
      obtain ⟨L, g1, g2, g3⟩ := ih (es.drop 32) (by rw [List.length_drop]; omega) (fun i hi => by
        obtain ⟨l, q1, q2⟩ := hh (i + 1) (by omega)
        exact ⟨l, by rw [List.drop_drop, show 32 + i * 32 = (i + 1) * 32 by omega]; exact q1, q2⟩)
      refine ⟨l :: L, ?_, by simp [g2], ?_⟩
      · rw [List.flatten_cons, List.map_append, ← g1, ← e1, Nat.zero_mul, List.drop_zero, List.take_append_drop]
      · intro x hx
        rcases List.mem_cons.1 hx with rfl | hx
        · exact ⟨e2, e3⟩
        · exact g3 x hx
  obtain ⟨L, g1, g2, g3⟩ := key n es h3.len (fun i hi => Sh.digest (h5 i hi))
  have hn : n ≤ sumTo f n := sumTo_ones n (fun i hi => by obtain ⟨_, _, hs, _⟩ := h5 i hi; omega)
  subst g1
  exact ⟨A, n, c, L, by simpa using hv, h1, h2, h3, g2, g3, by omega⟩
end Go.Proofs.YtopddinpmiefjaaDoor
