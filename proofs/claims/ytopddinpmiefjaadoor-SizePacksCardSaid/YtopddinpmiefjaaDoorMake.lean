/- make([]T, n); one cell of an own slice read and stored. Over any program. -/
import Derived.Test.YtopddinpmiefjaaDoorTail
import Derived.OwnWalk
namespace Go.Mny
set_option linter.unusedVariables false
open Go.RowKit
theorem madeCells_one (z : Value) (hz : z.cells = #[z]) (n : Nat) : (madeCells z.cells (n * 1)).toList = List.replicate n z := by
  rw [hz, Nat.mul_one]
  refine List.ext_getElem (by simp [madeCells]) fun i h1 h2 => ?_
  simp [madeCells, Nat.mod_one]
/-- make([]T, n) -/
theorem make_full {P : Program} {t e b : Nat} (z : Value) (hu : P.underlying t = some (.slice e)) (hi : (P.info? e).map (fun i => (i.zero, i.size, i.bytes)) = some (some z, 1, b)) (hz : z.cells = #[z])
    {w : World} {ops : Array Oper} {rest : List Oper} {o : Oper} {a : Act} {Q : Exit → Act → World → Prop} (hgd : o.guard = none)
    (x y : Operand) (ho : o.op = .makeSlice t x y) {k1 k2 : IntKind} {n : Nat} (hx : a.eval x = .int k1 (n : Int)) (hy : a.eval y = .int k2 (n : Int)) (hn : b * n ≤ 281474976710656) (hm : n ≤ maxLen)
    (k : ∀ g w2, g = w.heap.size → Own w2 w.heap.size e 1 (some ⟨g, 0, none⟩) n n (List.replicate n z) → Below w.heap.size w w2 → w.heap.size < w2.heap.size → wpList P ops Q rest (a.put o.dst (.slice (some ⟨g, 0, none⟩) n n)) w2) :
    wpList P ops Q (o :: rest) a w := by
  obtain ⟨i, h1, h2, h3, h4⟩ := info_parts hi
  subst h4
  refine wpList_make_full w hgd x y t ho w.heap.size e i z 1 hu h1 h2 h3 k1 k2 n n n hx hy rfl rfl hn hm (Nat.le_refl _) ?_
  intro w2 r1 r2
  rw [madeCells_one z hz] at r1
  have hlt : w.heap.size < w2.heap.size := World.ownsRow.lt r1 w.heap.size rfl |>.2
  exact k _ w2 rfl r1 (Below.grown (Below.refl _ _) r2 (Nat.le_refl _) (fun q hq => by cases hq)) hlt
theorem run_store1 {P : Program} {t g i e' : Nat} (hsz : (P.info? t).map (·.size) = some 1) {w : World} {cur : Array Value} {v : Value} (hv : (∃ k z, v = .int k z) ∨ (∃ b, v = .bool b)) (hb : Blk w g e' cur) (hi : i < cur.size) :
    (storeVar t ⟨g, i, none⟩ v).run P w = .ok () (w.setCell ⟨g, i, none⟩ v) := by
  have hc : w.cell? ⟨g, i, none⟩ = some cur[i] := by rw [hb.cell i]; simp [hi]
  have hf := hb.free i
  have hr : (store ⟨g, i, none⟩ v).run P w = .ok () (w.setCell ⟨g, i, none⟩ v) := by
    rcases hv with ⟨k, z, rfl⟩ | ⟨b, rfl⟩ <;> simp [go_sem, hc, hf]
  cases hq : P.info? t with
  | none => simp [hq] at hsz
  | some inf =>
    have hs2 : inf.size = 1 := by simpa [hq] using hsz
    rcases hv with ⟨k, z, rfl⟩ | ⟨b, rfl⟩ <;> simp [storeVar, Sem.run_bind, sizeOf, typeInfo, hq, hs2, Value.cells, storeCells, Addr.add, hr]
theorem Own.set1 {w : World} {B e g n c i : Nat} {cs : List Value} (h : Own w B e 1 (some ⟨g, 0, Option.none⟩) n c cs) (hi : i < n) (v : Value) :
    (∃ cur, Hid (Blk w g e cur) ∧ i < cur.size) ∧ Own (w.setCell ⟨g, i, Option.none⟩ v) B e 1 (some ⟨g, 0, Option.none⟩) n c (cs.set i v) ∧ w.grownBy (w.setCell ⟨g, i, Option.none⟩ v) (some g) := by
  obtain ⟨g', cur, e1, hB, hb, hnc, hcm, hcs, ht⟩ := h.blk (by omega)
  injection e1 with e1; injection e1 with e1; subst e1
  refine ⟨⟨cur, hb, by omega⟩, Own.of_blk (hb.out.put i v) hB hnc hcm (by rw [Array.size_setIfInBounds]; exact hcs) ?_, ⟨rfl, rfl, rfl, by simp, fun j _ hj => Below.heap_setCell _ _ _ _ (fun e => hj (by rw [e]))⟩⟩
  rw [Array.toList_setIfInBounds, ← ht, List.take_set]
/-- x[i] = v in an own slice -/
theorem store_own1 {P : Program} {t e : Nat} (hsz : (P.info? t).map (·.size) = some 1) {w : World} {ops : Array Oper} {rest : List Oper} {o : Oper} {a : Act} {Q : Exit → Act → World → Prop} (hw : Region.wanted o (yielded ops a.tmps) = true)
    (x y : Operand) (ho : o.op = .store t x y) {B g n c i : Nat} {cs : List Value} (hown : Own w B e 1 (some ⟨g, 0, Option.none⟩) n c cs) (hi : i < n) (hx : a.eval x = .pointer (some ⟨g, i, Option.none⟩)) {v : Value} (hy : a.eval y = v) (hv : (∃ k z, v = .int k z) ∨ (∃ b, v = .bool b))
    (k : ∀ w2, Own w2 B e 1 (some ⟨g, 0, Option.none⟩) n c (cs.set i v) → w.grownBy w2 (some g) → wpList P ops Q rest (a.put o.dst undef) w2) : wpList P ops Q (o :: rest) a w := by
  refine op_step hw fun K hK => ?_
  obtain ⟨⟨cur, hb, hic⟩, h2, h3⟩ := hown.set1 hi v
  have hr := run_store1 (P := P) (v := v) hsz hv hb.out hic
  unfold Oper.wp execOp
  simp only [ho, hx, hy, Instr.storeAt, Instr.sureAddr, Sem.run_bind, Sem.run_pure, Result.andThen_ok, hr]
  exact hK _ _ (k _ h2 h3)
theorem Own.get1 {w : World} {B e g n c i : Nat} {cs : List Value} (h : Own w B e 1 (some ⟨g, 0, Option.none⟩) n c cs) (hi : i < n) : w.cell? ⟨g, i, Option.none⟩ = cs[i]? ∧ w.frozen? ⟨g, i, Option.none⟩ = false := by
  obtain ⟨g', cur, e1, hB, hb, hnc, hcm, hcs, ht⟩ := h.blk (by omega)
  injection e1 with e1; injection e1 with e1; subst e1
  refine ⟨?_, hb.out.free i⟩
  rw [hb.out.cell i, ← ht, List.getElem?_take, if_pos (by omega), Array.getElem?_toList]
end Go.Mny
