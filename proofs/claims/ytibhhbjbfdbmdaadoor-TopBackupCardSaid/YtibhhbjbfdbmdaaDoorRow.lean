/- Values of several cells (structs): a variable of such a type made, stored, loaded, boxed, returned; built of two fields. Over any program. -/
import Derived.Test.YtibhhbjbfdbmdaaDoorTail
import Derived.Test.YtibhhbjbfdbmdaaDoorBuild
import Derived.Laws.ResultCell
namespace Go.Mny
set_option linter.unusedVariables false
open Go.RowKit
theorem box_row {P : Program} {t : Nat} {w : World} {ops : Array Oper} {rest : List Oper} {o : Oper} {a : Act} {Q : Exit → Act → World → Prop} (hw : Region.wanted o (yielded ops a.tmps) = true)
    (x : Operand) (ho : o.op = .box t x) {cs : Array Value} (hx : a.eval x = .agg cs) (h : ∀ g w2, g = w.heap.size → w2.heap.size = g + 1 → Blk w2 g t cs → Below g w w2 → wpList P ops Q rest (a.put o.dst (.pointer (some ⟨g, 0, none⟩))) w2) :
    wpList P ops Q (o :: rest) a w := by
  refine op_step hw fun K hK => ?_
  have hr : (Instr.box t (.agg cs)).run P w = .ok (.pointer (some ⟨w.heap.size, 0, none⟩)) (w.alloc (.cells cs t)) := rfl
  unfold Oper.wp execOp
  simp only [ho, hx, Sem.run_bind, Sem.run_pure, Result.andThen_ok, hr]
  exact hK _ _ (h _ _ rfl (by simp) (Blk.new _ _ _) ((Below.refl _ _).alloc (Nat.le_refl _) _))
theorem alloc_row {P : Program} {t : Nat} (z : Array Value) (hz : (P.info? t).bind (·.zero) = some (.agg z)) {w : World} {ops : Array Oper} {rest : List Oper} {o : Oper} {a : Act} {Q : Exit → Act → World → Prop} (hw : Region.wanted o (yielded ops a.tmps) = true)
    (ho : o.op = .alloc t) (h : ∀ g w2, g = w.heap.size → w2.heap.size = g + 1 → Blk w2 g t z → Below g w w2 → wpList P ops Q rest (a.put o.dst (.pointer (some ⟨g, 0, none⟩))) w2) :
    wpList P ops Q (o :: rest) a w := by
  refine op_step hw fun K hK => ?_
  have hr : (Instr.alloc t true (.tuple #[])).run P w = .ok (.pointer (some ⟨w.heap.size, 0, none⟩)) (w.alloc (.cells z t)) := by
    cases hq : P.info? t with
    | none => simp [hq] at hz
    | some i =>
      have hz2 : i.zero = some (.agg z) := by simpa [hq] using hz
      simp only [Instr.alloc, zeroValue, typeInfo, Sem.run_bind, run_program, Result.andThen_ok, hq, hz2, Sem.run_pure, newVar, newRow, Value.cells]
      rfl
  unfold Oper.wp execOp
  simp only [ho, Sem.run_bind, Sem.run_pure, Result.andThen_ok, hr]
  exact hK _ _ (h _ _ rfl (by simp) (Blk.new _ _ _) ((Below.refl _ _).alloc (Nat.le_refl _) _))
theorem splice_all {cur : Array Value} {vs : List Value} (h : cur.size = vs.length) : splice cur 0 vs = vs.toArray := by
  unfold splice
  rw [List.take_zero, List.nil_append, List.drop_of_length_le (by rw [Array.length_toList]; omega), List.append_nil]
section
variable {P : Program} {t s : Nat}
theorem store_row (T : RowT P t s) {w : World} {ops : Array Oper} {rest : List Oper} {o : Oper} {a : Act} {Q : Exit → Act → World → Prop} (hw : Region.wanted o (yielded ops a.tmps) = true)
    (x y : Operand) (ho : o.op = .store t x y) {g e' : Nat} (hx : a.eval x = .pointer (some ⟨g, 0, none⟩)) {vs : List Value} (hy : a.eval y = .agg vs.toArray) (hl : vs.length = s) (h1 : ∀ v ∈ vs, v.oneCell' = true)
    {cur : Array Value} (hb : Blk w g e' cur) (hq : cur.size = s)
    (h : ∀ w2, Blk w2 g e' vs.toArray → w.grownBy w2 (some g) → wpList P ops Q rest (a.put o.dst undef) w2) : wpList P ops Q (o :: rest) a w :=
  store_mid T hw x y ho hx hy hl h1 hb (by omega) fun w2 b2 g2 => h w2 (by rw [splice_all (by omega)] at b2; exact b2) g2
theorem store_row_wp (T : RowT P t s) {w : World} {o : Oper} {a : Act} {K : Act → World → Prop} {Q : Exit → Act → World → Prop}
    (x y : Operand) (ho : o.op = .store t x y) {g e' : Nat} (hx : a.eval x = .pointer (some ⟨g, 0, none⟩)) {vs : List Value} (hy : a.eval y = .agg vs.toArray) (hl : vs.length = s) (h1 : ∀ v ∈ vs, v.oneCell' = true)
    {cur : Array Value} (hb : Blk w g e' cur) (hq : cur.size = s)
    (h : ∀ w2, Blk w2 g e' vs.toArray → w.grownBy w2 (some g) → K (a.put o.dst undef) w2) : o.wp P a w K Q := by
  obtain ⟨hr, h2, h3⟩ := run_store_mid T.size hb vs hl (q := 0) (by omega) h1
  rw [splice_all (by omega)] at hr h2 h3
  unfold Oper.wp execOp
  simp only [ho, hx, hy, Instr.storeAt, Instr.sureAddr, Sem.run_bind, Sem.run_pure, Result.andThen_ok, hr]
  exact h _ h2 h3
theorem _root_.Go.Mny.Blk.rangeL {w : World} {g e : Nat} {cs : List Value} (h : Blk w g e cs.toArray) : w.rangeAt g 0 cs := fun j v hv => by
  rw [Nat.zero_add, h.cell]; simpa using hv
theorem load_row (T : RowT P t s) {w : World} {ops : Array Oper} {rest : List Oper} {o : Oper} {a : Act} {Q : Exit → Act → World → Prop} (hw : Region.wanted o (yielded ops a.tmps) = true)
    (x : Operand) (ho : o.op = .load t x) {g e' : Nat} (hx : a.eval x = .pointer (some ⟨g, 0, none⟩)) {cs : List Value} (hb : Blk w g e' cs.toArray) (hl : cs.length = s)
    (h : wpList P ops Q rest (a.put o.dst (.agg cs.toArray)) w) : wpList P ops Q (o :: rest) a w := load_mid T hw x ho hx hb.rangeL hl h
theorem yields_row (T : RowT P t s) {ops : Array Oper} {S : World → Prop} {o : Oper} {a : Act} (hw : Region.wanted o (yielded ops a.tmps) = true)
    (x : Operand) (ho : o.op = .load t x) {g q : Nat} (hx : a.eval x = .pointer (some ⟨g, q, none⟩)) {cs : List Value} (hl : cs.length = s) (hS : ∀ w, S w → w.rangeAt g q cs) : YieldsIf P ops S o (.agg cs.toArray) a := by
  obtain ⟨d, h1, h2⟩ := T.row
  exact yieldsIf_load_mid hw t x ho g q hx _ _ hS h1 h2 (by rw [hl]; exact T.size)
end
theorem results_row_tmp {P : Program} {fn : Func} {p u : Tmp} {ty : TypeId} (h : fn.results = #[.cell p ty, .tmp u]) (tmps : Array Value) (w : World) (g : Nat) (t : TypeId) (cs : Array Value) (fr : Nat × Nat) (d : TypeDesc)
    (hp : tmps.getD p undef = .pointer (some ⟨g, 0, none⟩)) (hg : w.heap[g]? = some (.cells cs t fr))
    (hu : P.underlying ty = some d) (hd : (match d with | .struct _ | .array _ _ => true | _ => false) = true) (hi : (P.info? ty).map (·.size) = some cs.size) :
    (results fn tmps).run P w = .ok (.tuple #[.agg cs, tmps.getD u undef]) w := by
  rw [results_cell_tmp h, hp]
  simp only [asAddr, Sem.run_pure, Result.andThen_ok, run_loadVar_row w g t ty cs fr d hg hu hd hi]
/-- what a program's table says of a struct's fields: their places -/
structure Flds (P : Program) (t : Nat) (z : Array Value) (pl : Array (Nat × Nat)) : Prop where
  st : ∃ fs, P.underlying t = some (.struct fs) ∧ ∀ w, (fs.mapM (fun f => (do pure (f.offset, ← sizeOf f.type) : Sem (Nat × Nat)))).run P w = .ok pl w
  zero : (P.info? t).bind (·.zero) = some (.agg z)
theorem run_build_flds {P : Program} {t : Nat} {z : Array Value} {pl : Array (Nat × Nat)} (F : Flds P t z pl) (parts : Array (Nat × Value)) (cs : Array Value) (hf : Instr.fill (pl[·]?) z parts.toList = some cs) (w : World) :
    (Instr.build t parts).run P w = .ok (.agg cs) w := by
  obtain ⟨fs, h1, h2⟩ := F.st
  have hz := F.zero
  cases hq : P.info? t with
  | none => simp [hq] at hz
  | some i =>
    have hz2 : i.zero = some (.agg z) := by simpa [hq] using hz
    simp only [Instr.build, zeroValue, typeInfo, Sem.run_bind, run_program, Result.andThen_ok, hq, hz2, Sem.run_pure, run_underlying h1, h2, Value.cells, hf]
/-- a part of several cells laid over what is there -/
def over (cells : Array Value) (off : Nat) (vs : List Value) : Array Value := (cells.toList.take off ++ vs ++ cells.toList.drop (off + vs.length)).toArray
theorem fill_step {place : Nat → Option (Nat × Nat)} {cells : Array Value} {i off s : Nat} {v : Value} {vs : List Value} {r : List (Nat × Value)} (hp : place i = some (off, s)) (hv : v.cells = vs.toArray) (hs : vs.length = s) (hle : off + s ≤ cells.size) :
    Instr.fill place cells ((i, v) :: r) = Instr.fill place (over cells off vs) r := by
  have hf := fold_set off vs 0 cells (by omega)
  have hf2 : vs.toArray.zipIdx.foldl (fun c (x : Value × Nat) => c.setIfInBounds (off + x.2) x.1) cells = over cells off vs := by
    rw [← Array.foldl_toList, Array.toList_zipIdx, hf]; rfl
  rw [Instr.fill, hp]
  simp only [hv, List.size_toArray, hs, ne_eq, not_true_eq_false, decide_false, Bool.false_or]
  rw [if_neg (by simp; omega)]
  exact congrArg (fun c => Instr.fill place c r) hf2
theorem fill_done {place : Nat → Option (Nat × Nat)} {cells : Array Value} : Instr.fill place cells [] = some cells := by rw [Instr.fill]
end Go.Mny
