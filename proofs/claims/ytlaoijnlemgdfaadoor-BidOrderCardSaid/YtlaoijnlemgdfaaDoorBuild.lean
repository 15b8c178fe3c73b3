/- A slice built of one element of several cells, as one step. Over any program. -/
import Derived.Test.YtlaoijnlemgdfaaDoorTail
namespace Go.Mny
open Go.RowKit
theorem fold_set (off : Nat) : ∀ (vs : List Value) (k : Nat) (cells : Array Value), off + k + vs.length ≤ cells.size →
    (vs.zipIdx k).foldl (fun cs (x : Value × Nat) => cs.setIfInBounds (off + x.2) x.1) cells = (cells.toList.take (off + k) ++ vs ++ cells.toList.drop (off + k + vs.length)).toArray
  | [], k, cells, _ => by simp
  | v :: vs, k, cells, h => by
    rw [List.zipIdx_cons, List.foldl_cons, fold_set off vs (k + 1) _ (by simp only [Array.size_setIfInBounds]; simp only [List.length_cons] at h; omega)]
    simp only [List.length_cons] at h
    apply Array.ext'
    simp only [Array.toList_setIfInBounds]
    have hlt : off + k < cells.toList.length := by rw [Array.length_toList]; omega
    rw [List.set_eq_take_append_cons_drop, if_pos hlt]
    have h1 : (cells.toList.take (off + k)).length = off + k := by rw [List.length_take]; omega
    have e1 : off + (k + 1) = (off + k) + 1 := by omega
    rw [e1]
    have t1 : (cells.toList.take (off + k) ++ v :: cells.toList.drop (off + k + 1)).take (off + k + 1) = cells.toList.take (off + k) ++ [v] := by
      rw [List.take_append, h1, List.take_of_length_le (by omega), show off + k + 1 - (off + k) = 1 by omega]; rfl
    have t2 : (cells.toList.take (off + k) ++ v :: cells.toList.drop (off + k + 1)).drop (off + k + 1 + vs.length) = cells.toList.drop (off + k + (vs.length + 1)) := by
      rw [List.drop_append, List.drop_of_length_le (by omega), h1, List.nil_append, show off + k + 1 + vs.length - (off + k) = vs.length + 1 by omega, List.drop_succ_cons, List.drop_drop]
      congr 1; omega
    rw [t1, t2, List.length_cons]
    simp
theorem run_build1 {P : Program} {t e s b : Nat} (E : Elt P t e s b) (hs : s ≤ 16777216) (w : World) (v : Value) (cs : List Value) (hv : v.cells = cs.toArray) (hl : cs.length = s) :
    (Instr.buildSlice t 1 #[(0, v)]).run P w = .ok (.slice (some ⟨w.heap.size, 0, none⟩) 1 1) (w.alloc (.cells cs.toArray e)) := by
  obtain ⟨i, z, hi, hz, e1, e2, e3⟩ := E.info
  have hp := E.pos
  have h0 : ¬ (s = 0) := by omega
  have h24 : ¬ (16777216 < s) := by omega
  have hsz : ((Array.range s).map fun x => z.cells[x % z.cells.size]!).size = s := by simp
  have hf := fold_set 0 cs 0 ((Array.range s).map fun x => z.cells[x % z.cells.size]!) (by rw [hsz]; omega)
  have hf2 : cs.toArray.zipIdx.foldl (fun c (x : Value × Nat) => c.setIfInBounds (0 + x.2) x.1) ((Array.range s).map fun x => z.cells[x % z.cells.size]!) = cs.toArray := by
    rw [← Array.foldl_toList, Array.toList_zipIdx]
    rw [hf]
    have : ((Array.range s).map fun x => z.cells[x % z.cells.size]!).toList.drop (0 + 0 + cs.length) = [] := List.drop_of_length_le (by rw [Array.length_toList, hsz]; omega)
    rw [this]; simp
  have hfill : Instr.fill (fun i => some (i * s, s)) ((Array.range s).map fun x => z.cells[x % z.cells.size]!) [(0, v)] = some cs.toArray := by
    unfold Instr.fill
    simp only [Nat.zero_mul, hv, List.size_toArray, hl, ne_eq, not_true_eq_false, decide_false, Bool.false_or, Nat.zero_add, hsz, gt_iff_lt, Nat.lt_irrefl, Bool.false_eq_true, if_false]
    rw [Instr.fill]
    simp only [Nat.zero_add] at hf2
    exact congrArg some hf2
  simp only [Instr.buildSlice, Sem.run_bind, run_underlying E.under, Result.andThen_ok, sizeOf, typeInfo, run_program, hi, Sem.run_pure, e1, Nat.one_mul, zeroValue]
  simp [h0, h24, hfill, newRow, hi, hz]
/-- a slice of one new element -/
theorem build1 {P : Program} {t e s b : Nat} (E : Elt P t e s b) (hs : s ≤ 16777216) {w : World} {ops : Array Oper} {rest : List Oper} {o : Oper} {a : Act} {Q : Exit → Act → World → Prop} (hw : Region.wanted o (yielded ops a.tmps) = true)
    (x : Operand) (ho : o.op = .buildSlice t 1 #[(0, x)]) {cs : List Value} (hx : (a.eval x).cells = cs.toArray) (hl : cs.length = s)
    (h : Blk (w.alloc (.cells cs.toArray e)) w.heap.size e cs.toArray → wpList P ops Q rest (a.put o.dst (.slice (some ⟨w.heap.size, 0, none⟩) 1 1)) (w.alloc (.cells cs.toArray e))) : wpList P ops Q (o :: rest) a w := by
  refine op_step hw fun K hK => ?_
  have hr := run_build1 (P := P) E hs w (a.eval x) cs hx hl
  unfold Oper.wp execOp
  simp only [ho, List.map_toArray, List.map_cons, List.map_nil, Sem.run_bind, Sem.run_pure, Result.andThen_ok, hr]
  exact hK _ _ (h (Blk.new _ _ _))
end Go.Mny
