/- Arrays of integers as values and as whole blocks: reading, storing, indexing, comparing, each as one step. Over any program. -/
import Derived.Test.YtopddinpmiefjaaDoorBase
import Derived.Deep.QuietTactic
import Derived.BigQuiet
namespace Go.Mny
open Go.RowKit

/-- To let a walk stand at one operation. -/
theorem halt_op {P : Program} {ops : Array Oper} {Q : Exit → Act → World → Prop} {a : Act} {w : World} (d : Option Tmp) (op : Op) {ty : TypeId} {pos : String} {af : Array Edge} {gd : Option (Nat × Bool)} {rest : List Oper}
    (h : ∀ K : Prop, Hid (wpList P ops Q ({ dst := d, op := op, type := ty, pos := pos, after := af, guard := gd } :: rest) a w → K) → K) :
    wpList P ops Q ({ dst := d, op := op, type := ty, pos := pos, after := af, guard := gd } :: rest) a w := halt_at h

/-- One operation that is wanted. -/
theorem op_step {P : Program} {ops : Array Oper} {Q : Exit → Act → World → Prop} {a : Act} {w : World} {rest : List Oper} {o : Oper} (hw : Region.wanted o (yielded ops a.tmps) = true)
    (h : ∀ K : Act → World → Prop, (∀ a w, wpList P ops Q rest a w → K a w) → o.wp P a w K Q) : wpList P ops Q (o :: rest) a w :=
  wpList_step fun K hK => by rw [if_pos hw]; exact h K hK

/-- What the program's table says of an array type of n integers. -/
structure ArrI (P : Program) (t e n : Nat) (k : IntKind) : Prop where
  under : P.underlying t = some (.array n e)
  elem : P.underlying e = some (.int k)
  size : (P.info? t).map (·.size) = some n
  one : (P.info? e).map (·.size) = some 1
  zero : (P.info? t).bind (·.zero) = some (.agg (Array.replicate n (.int k 0)))

def cellsOf (k : IntKind) (l : List Int) : Array Value := (l.map (Value.int k)).toArray
theorem cellsOf_size (k : IntKind) (l : List Int) : (cellsOf k l).size = l.length := by simp [cellsOf]
theorem cellsOf_get (k : IntKind) (l : List Int) (i : Nat) : (cellsOf k l)[i]? = (l[i]?).map (Value.int k) := by simp [cellsOf]
theorem cellsOf_set (k : IntKind) (l : List Int) (i : Nat) (z : Int) : (cellsOf k l).setIfInBounds i (.int k z) = cellsOf k (l.set i z) := by
  simp [cellsOf, List.map_set]

section
variable {P : Program} {t e n : Nat} {k : IntKind}
theorem ArrI.sizeE (T : ArrI P t e n k) (w : World) : (sizeOf e).run P w = .ok 1 w := by
  have h := T.one
  cases hq : P.info? e with
  | none => simp [hq] at h
  | some i => have hs : i.size = 1 := by simpa [hq] using h
              simp [sizeOf, typeInfo, hq, hs]
theorem ArrI.aggE (T : ArrI P t e n k) (w : World) : (isAgg e).run P w = .ok false w := by
  unfold isAgg; rw [Sem.run_bind, run_underlying T.elem w]; rfl
theorem run_index_int (T : ArrI P t e n k) (w : World) (l : List Int) (j : Nat) (hj : j < n) (z : Int) (hz : l[j]? = some z) (kk : IntKind) :
    (Instr.index t (.agg (cellsOf k l)) (.int kk j)).run P w = .ok (.int k z) w := by
  have hc : (cellsOf k l)[j]? = some (.int k z) := by rw [cellsOf_get, hz]; rfl
  have h1 := T.sizeE w
  have h2 := T.aggE w
  have hj' : ¬ n ≤ j := by omega
  simp [Instr.index, asIntOf, Sem.run_bind, run_underlying T.under w, hj, h1, part, h2, hc]
theorem index_int (T : ArrI P t e n k) {w : World} {ops : Array Oper} {rest : List Oper} {o : Oper} {a : Act} {Q : Exit → Act → World → Prop} (hw : Region.wanted o (yielded ops a.tmps) = true)
    (x y : Operand) (ho : o.op = .index t x y) {l : List Int} (hx : a.eval x = .agg (cellsOf k l)) {kk : IntKind} {j : Nat} (hy : a.eval y = .int kk j) (hj : j < n) {z : Int} (hz : l[j]? = some z)
    (h : wpList P ops Q rest (a.put o.dst (.int k z)) w) : wpList P ops Q (o :: rest) a w := by
  refine op_step hw fun K hK => ?_
  unfold Oper.wp execOp
  simp only [ho, hx, hy, Sem.run_bind, Sem.run_pure, Result.andThen_ok, run_index_int T w l j hj z hz kk]
  exact hK _ _ h
/-- a whole array read out of its block -/
theorem load_arr (T : ArrI P t e n k) {w : World} {ops : Array Oper} {rest : List Oper} {o : Oper} {a : Act} {Q : Exit → Act → World → Prop} (hw : Region.wanted o (yielded ops a.tmps) = true)
    (x : Operand) (ho : o.op = .load t x) {g e' : Nat} (hx : a.eval x = .pointer (some ⟨g, 0, none⟩)) {l : List Int} (hb : Blk w g e' (cellsOf k l)) (hl : l.length = n)
    (h : wpList P ops Q rest (a.put o.dst (.agg (cellsOf k l))) w) : wpList P ops Q (o :: rest) a w :=
  op_step hw fun K hK => wp_load_row t x ho g hx e' (cellsOf k l) (0, 0) _ hb T.under rfl (by rw [cellsOf_size, hl]; exact T.size) (hK _ _ h)
theorem run_store_arr (T : ArrI P t e n k) {w : World} {g e' : Nat} {cur : Array Value} (hb : Blk w g e' cur) (hc : cur.size = n) (l : List Int) (hl : l.length = n) :
    ∃ w2, (storeVar t ⟨g, 0, none⟩ (.agg (cellsOf k l))).run P w = .ok () w2 ∧ Blk w2 g e' (cellsOf k l) ∧ w.grownBy w2 (some g) := by
  have hs := run_storeCells_at P g 0 e' (l.map (Value.int k)) 0 cur w hb (by simp; omega) (ints_one k l)
  have hlist : (cur.toList.take (0 + 0) ++ l.map (Value.int k) ++ cur.toList.drop (0 + 0 + (l.map (Value.int k)).length)).toArray = cellsOf k l := by
    rw [List.take_zero, List.nil_append, List.drop_of_length_le (by simp; omega), List.append_nil]; rfl
  rw [hlist] at hs
  refine ⟨w.setRow g (cellsOf k l), ?_, setRow_heap w g cur (cellsOf k l) e' (0, 0) hb, rfl, rfl, rfl, by simp, fun j _ hj => setRow_other w g j _ (fun h => hj (by rw [h]))⟩
  have h := T.size
  have hcl : (cellsOf k l).toList = l.map (Value.int k) := by simp [cellsOf]
  cases hq : P.info? t with
  | none => simp [hq] at h
  | some i =>
    have hs2 : i.size = n := by simpa [hq] using h
    simp [storeVar, Sem.run_bind, sizeOf, typeInfo, hq, hs2, Value.cells, cellsOf_size, hl, hcl, hs]
theorem store_arr (T : ArrI P t e n k) {w : World} {ops : Array Oper} {rest : List Oper} {o : Oper} {a : Act} {Q : Exit → Act → World → Prop} (hw : Region.wanted o (yielded ops a.tmps) = true)
    (x y : Operand) (ho : o.op = .store t x y) {g e' : Nat} (hx : a.eval x = .pointer (some ⟨g, 0, none⟩)) {l : List Int} (hy : a.eval y = .agg (cellsOf k l)) (hl : l.length = n)
    {cur : Array Value} (hb : Blk w g e' cur) (hc : cur.size = n)
    (h : ∀ w2, Blk w2 g e' (cellsOf k l) → w.grownBy w2 (some g) → wpList P ops Q rest (a.put o.dst undef) w2) : wpList P ops Q (o :: rest) a w := by
  refine op_step hw fun K hK => ?_
  obtain ⟨w2, hr, h1, h2⟩ := run_store_arr T hb hc l hl
  unfold Oper.wp execOp
  simp only [ho, hx, hy, Instr.storeAt, Instr.sureAddr, Sem.run_bind, Sem.run_pure, Result.andThen_ok, hr]
  exact hK _ _ (h w2 h1 h2)
end

/-- one cell stored into a block that is known whole -/
theorem store_cell {P : Program} {t : TypeId} {k : IntKind} (hsz : (P.info? t).map (·.size) = some 1) {w : World} {ops : Array Oper} {rest : List Oper} {o : Oper} {a : Act} {Q : Exit → Act → World → Prop} (hw : Region.wanted o (yielded ops a.tmps) = true)
    (x y : Operand) (ho : o.op = .store t x y) {g i : Nat} (hx : a.eval x = .pointer (some ⟨g, i, none⟩)) {z : Int} (hy : a.eval y = .int k z) {e' : Nat} {cur : Array Value} (hb : Blk w g e' cur) (hi : i < cur.size)
    (h : ∀ w2, Blk w2 g e' (cur.setIfInBounds i (.int k z)) → w.grownBy w2 (some g) → wpList P ops Q rest (a.put o.dst undef) w2) : wpList P ops Q (o :: rest) a w := by
  refine op_step hw fun K hK => ?_
  have hc : w.cell? ⟨g, i, none⟩ = some cur[i] := by rw [hb.cell i]; simp [hi]
  have hf := hb.free i
  have hr : (store ⟨g, i, none⟩ (.int k z)).run P w = .ok () (w.setCell ⟨g, i, none⟩ (.int k z)) := by simp [go_sem, hc, hf]
  have hq : (storeVar t ⟨g, i, none⟩ (.int k z)).run P w = .ok () (w.setCell ⟨g, i, none⟩ (.int k z)) := by
    cases hq : P.info? t with
    | none => simp [hq] at hsz
    | some inf =>
      have hs2 : inf.size = 1 := by simpa [hq] using hsz
      simp [storeVar, Sem.run_bind, sizeOf, typeInfo, hq, hs2, Value.cells, storeCells, Addr.add, hr]
  unfold Oper.wp execOp
  simp only [ho, hx, hy, Instr.storeAt, Instr.sureAddr, Sem.run_bind, Sem.run_pure, Result.andThen_ok, hq]
  exact hK _ _ (h _ (hb.put i _) ⟨rfl, rfl, rfl, by simp, fun j _ hj => Below.heap_setCell _ _ _ _ (fun e => hj (by rw [e]))⟩)
theorem loop_all {P : Program} (w : World) (f : Nat → Sem Bool) (g : Nat → Bool) : ∀ (l : List Nat), (∀ i ∈ l, (f i).run P w = .ok (g i) w) →
    (forIn (m := Sem) l ((none, ()) : Option Bool × Unit) fun i _ => do
      let b ← f i
      if (!b) = true then pure (ForInStep.done (some false, ())) else pure (ForInStep.yield (none, ()))).run P w =
      .ok (if l.all g then (none, ()) else (some false, ())) w
  | [], _ => by simp
  | i :: l, h => by
    have hi := h i (by simp)
    have ih := loop_all w f g l (fun j hj => h j (by simp [hj]))
    simp only [List.forIn_cons, Sem.run_bind, hi, Result.andThen_ok]
    cases hg : g i with
    | true =>
      simp only [Bool.not_true, Bool.false_eq_true, if_false, Sem.run_pure, Result.andThen_ok]
      exact ih.trans (by simp only [List.all_cons, hg, Bool.true_and])
    | false => simp [hg]
theorem run_part {P : Program} {t e n : Nat} {k : IntKind} (T : ArrI P t e n k) (w : World) (l : List Int) (i : Nat) (hi : i < l.length) : (part e (cellsOf k l) (i * 1)).run P w = .ok (.int k (l.getD i 0)) w := by
  have c1 : (cellsOf k l)[i]? = some (.int k (l.getD i 0)) := by rw [cellsOf_get, List.getElem?_eq_getElem hi]; simp [List.getElem?_eq_getElem hi]
  unfold part
  simp only [Sem.run_bind, T.aggE w, Result.andThen_ok, Nat.mul_one, c1]
  rfl
theorem run_eq_arr {P : Program} {t e n : Nat} {k : IntKind} (T : ArrI P t e n k) (w : World) (d : Nat) (l1 l2 : List Int) (h1 : l1.length = n) (h2 : l2.length = n) :
    (Op.equalIn (d+2) t (.agg (cellsOf k l1)) (.agg (cellsOf k l2))).run P w = .ok (decide (l1 = l2)) w := by
  have hb : ∀ i ∈ List.range' 0 n, (do
            let x ← part e (cellsOf k l1) (i * 1)
            let y ← part e (cellsOf k l2) (i * 1)
            Op.equalIn (d + 1) e x y : Sem Bool).run P w = .ok (l1.getD i 0 == l2.getD i 0) w := by
    intro i hi
    have hi' : i < n := by simpa using hi
    rw [Sem.run_bind, run_part T w l1 i (by omega), Result.andThen_ok, Sem.run_bind, run_part T w l2 i (by omega), Result.andThen_ok]
    exact run_equalIn_int w d e k k _ _ T.elem
  have hl := loop_all (P := P) w _ (fun i => l1.getD i 0 == l2.getD i 0) (List.range' 0 n) hb
  simp only [bind_assoc] at hl
  have hr : List.range' [:n].start [:n].size [:n].step = List.range' 0 n := by simp [Std.Legacy.Range.size]
  have hall : ((List.range' 0 n).all fun i => l1.getD i 0 == l2.getD i 0) = decide (l1 = l2) := by
    rw [Bool.eq_iff_iff]
    simp only [List.all_eq_true, decide_eq_true_eq, beq_iff_eq]
    constructor
    · intro h
      refine List.ext_getElem (by omega) fun i hi1 hi2 => ?_
      have := h i (by simp; omega)
      simpa [List.getElem?_eq_getElem hi1, List.getElem?_eq_getElem hi2] using this
    · rintro rfl i _; rfl
  rw [Op.equalIn, Sem.run_bind, run_underlying T.under w]
  simp only [Result.andThen_ok, Sem.run_bind, T.sizeE w]
  rw [Std.Legacy.Range.forIn_eq_forIn_range', hr, hl, hall]
  by_cases h : l1 = l2 <;> simp [h]
theorem eql_arr {P : Program} {t e n : Nat} {k : IntKind} (T : ArrI P t e n k) (hg : P.eqGuardType P.depth t = false) {w : World} {ops : Array Oper} {rest : List Oper} {o : Oper} {a : Act} {Q : Exit → Act → World → Prop} (hw : Region.wanted o (yielded ops a.tmps) = true)
    (x y : Operand) (yt : TypeId) (ho : o.op = .binOp .eql t x y yt) {l1 l2 : List Int} (hx : a.eval x = .agg (cellsOf k l1)) (hy : a.eval y = .agg (cellsOf k l2)) (h1 : l1.length = n) (h2 : l2.length = n)
    {b : Bool} (hb : b = decide (l1 = l2)) (h : wpList P ops Q rest (a.put o.dst (.bool b)) w) : wpList P ops Q (o :: rest) a w := by
  refine op_step hw fun K hK => ?_
  have e1 : (binOp .eql t (.agg (cellsOf k l1)) (.agg (cellsOf k l2))).run P w = .ok (.bool b) w := by
    rw [run_eql_struct, run_eq_arr T w 9998 l1 l2 h1 h2, hb]; rfl
  have e2 : (eqGuard .eql t x y (.agg (cellsOf k l1)) (.agg (cellsOf k l2))).run P w = .ok () w := by
    unfold eqGuard; simp [run_program, Sem.run_bind, hg]
  unfold Oper.wp execOp
  simp only [ho, hx, hy, Sem.run_bind, Sem.run_pure, Result.andThen_ok, e1, e2]
  exact hK _ _ h
theorem neq_arr {P : Program} {t e n : Nat} {k : IntKind} (T : ArrI P t e n k) (hg : P.eqGuardType P.depth t = false) {w : World} {ops : Array Oper} {rest : List Oper} {o : Oper} {a : Act} {Q : Exit → Act → World → Prop} (hw : Region.wanted o (yielded ops a.tmps) = true)
    (x y : Operand) (yt : TypeId) (ho : o.op = .binOp .neq t x y yt) {l1 l2 : List Int} (hx : a.eval x = .agg (cellsOf k l1)) (hy : a.eval y = .agg (cellsOf k l2)) (h1 : l1.length = n) (h2 : l2.length = n)
    {b : Bool} (hb : b = decide (l1 ≠ l2)) (h : wpList P ops Q rest (a.put o.dst (.bool b)) w) : wpList P ops Q (o :: rest) a w := by
  refine op_step hw fun K hK => ?_
  have e1 : (binOp .neq t (.agg (cellsOf k l1)) (.agg (cellsOf k l2))).run P w = .ok (.bool b) w := by
    rw [run_neq_struct, run_eq_arr T w 9998 l1 l2 h1 h2, hb]; by_cases h : l1 = l2 <;> simp [h]
  have e2 : (eqGuard .neq t x y (.agg (cellsOf k l1)) (.agg (cellsOf k l2))).run P w = .ok () w := by
    unfold eqGuard; simp [run_program, Sem.run_bind, hg]
  unfold Oper.wp execOp
  simp only [ho, hx, hy, Sem.run_bind, Sem.run_pure, Result.andThen_ok, e1, e2]
  exact hK _ _ h
theorem cellsOf_zeros (k : IntKind) (n : Nat) : Array.replicate n (Value.int k 0) = cellsOf k (List.replicate n 0) := by simp [cellsOf]
/-- a new array, all 0 -/
theorem alloc_arr {P : Program} {t e n : Nat} {k : IntKind} (T : ArrI P t e n k) {w : World} {ops : Array Oper} {rest : List Oper} {o : Oper} {a : Act} {Q : Exit → Act → World → Prop} (hw : Region.wanted o (yielded ops a.tmps) = true)
    (ho : o.op = .alloc t) (h : ∀ g w2, g = w.heap.size → w2.heap.size = g + 1 → Blk w2 g t (cellsOf k (List.replicate n 0)) → Below g w w2 → wpList P ops Q rest (a.put o.dst (.pointer (some ⟨g, 0, none⟩))) w2) :
    wpList P ops Q (o :: rest) a w := by
  refine op_step hw fun K hK => ?_
  have hr : (Instr.alloc t true (.tuple #[])).run P w = .ok (.pointer (some ⟨w.heap.size, 0, none⟩)) (w.alloc (.cells (cellsOf k (List.replicate n 0)) t)) := by
    have hz := T.zero
    cases hq : P.info? t with
    | none => simp [hq] at hz
    | some i =>
      have hz2 : i.zero = some (.agg (Array.replicate n (.int k 0))) := by simpa [hq] using hz
      simp only [Instr.alloc, zeroValue, typeInfo, Sem.run_bind, run_program, Result.andThen_ok, hq, hz2, Sem.run_pure, newVar, newRow, Value.cells, cellsOf_zeros]
      rfl
  unfold Oper.wp execOp
  simp only [ho, Sem.run_bind, Sem.run_pure, Result.andThen_ok, hr]
  exact hK _ _ (h _ _ rfl (by simp) (Blk.new _ _ _) ((Below.refl _ _).alloc (Nat.le_refl _) _))
/-- a value of several cells is put into a variable of its own -/
theorem box_arr {P : Program} {t : Nat} {k : IntKind} {w : World} {ops : Array Oper} {rest : List Oper} {o : Oper} {a : Act} {Q : Exit → Act → World → Prop} (hw : Region.wanted o (yielded ops a.tmps) = true)
    (x : Operand) (ho : o.op = .box t x) {l : List Int} (hx : a.eval x = .agg (cellsOf k l)) (h : ∀ g w2, g = w.heap.size → w2.heap.size = g + 1 → Blk w2 g t (cellsOf k l) → Below g w w2 → wpList P ops Q rest (a.put o.dst (.pointer (some ⟨g, 0, none⟩))) w2) :
    wpList P ops Q (o :: rest) a w := by
  refine op_step hw fun K hK => ?_
  have hr : (Instr.box t (.agg (cellsOf k l))).run P w = .ok (.pointer (some ⟨w.heap.size, 0, none⟩)) (w.alloc (.cells (cellsOf k l) t)) := rfl
  unfold Oper.wp execOp
  simp only [ho, hx, Sem.run_bind, Sem.run_pure, Result.andThen_ok, hr]
  exact hK _ _ (h _ _ rfl (by simp) (Blk.new _ _ _) ((Below.refl _ _).alloc (Nat.le_refl _) _))
theorem ofInt_i64 (a : Nat) (ha : a < 9223372036854775808) : (BitVec.ofInt 64 (a : Int)).toNat = a := by
  rw [BitVec.ofInt_natCast, BitVec.toNat_ofNat]; exact Nat.mod_eq_of_lt (by omega)
theorem i64_and (a b : Nat) (ha : a < 9223372036854775808) (hb : b < 9223372036854775808) : bits .and .i64 (a : Int) (b : Int) = ((a &&& b : Nat) : Int) := by
  have h : a &&& b ≤ a := Nat.and_le_left
  show IntKind.i64.wrap ((BitVec.ofInt 64 (a : Int) &&& BitVec.ofInt 64 (b : Int)).toNat : Int) = _
  rw [BitVec.toNat_and, ofInt_i64 a ha, ofInt_i64 b hb]
  exact IntWalk.i64_in _ (by omega)
theorem i64_or (a b : Nat) (ha : a < 9223372036854775808) (hb : b < 9223372036854775808) : bits .or .i64 (a : Int) (b : Int) = ((a ||| b : Nat) : Int) := by
  have h : a ||| b < 2 ^ 63 := Nat.or_lt_two_pow (by omega) (by omega)
  show IntKind.i64.wrap ((BitVec.ofInt 64 (a : Int) ||| BitVec.ofInt 64 (b : Int)).toNat : Int) = _
  rw [BitVec.toNat_or, ofInt_i64 a ha, ofInt_i64 b hb]
  exact IntWalk.i64_in _ (by omega)
theorem i64_xor (a b : Nat) (ha : a < 9223372036854775808) (hb : b < 9223372036854775808) : bits .xor .i64 (a : Int) (b : Int) = ((a ^^^ b : Nat) : Int) := by
  have h : a ^^^ b < 2 ^ 63 := Nat.xor_lt_two_pow (by omega) (by omega)
  show IntKind.i64.wrap ((BitVec.ofInt 64 (a : Int) ^^^ BitVec.ofInt 64 (b : Int)).toNat : Int) = _
  rw [BitVec.toNat_xor, ofInt_i64 a ha, ofInt_i64 b hb]
  exact IntWalk.i64_in _ (by omega)
theorem i64_mask4 (x : Int) (h0 : 0 ≤ x) (h1 : x < 9223372036854775808) : bits .and .i64 x 15 = x % 16 := by
  obtain ⟨n, rfl⟩ := Int.eq_ofNat_of_zero_le h0
  have := i64_and n 15 (by omega) (by decide)
  rw [show ((15 : Nat) : Int) = 15 from rfl] at this
  rw [this, nat_mask4]; omega
end Go.Mny
