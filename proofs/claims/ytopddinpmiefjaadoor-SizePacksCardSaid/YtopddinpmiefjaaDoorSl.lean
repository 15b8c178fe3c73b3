/- A cut of a slice as one step; draws. Over any program. -/
import Derived.Test.YtopddinpmiefjaaDoorArr
namespace Go.Mny
open Go.RowKit

theorem Row.drewN {w : World} {D s n : Nat} {A : Option Addr} {cs : List Value} (h : Row w D s A n cs) (k : Nat) : Row (w.drewN k) D s A n cs := ⟨h.len, h.cells⟩
theorem Own.drewN {w : World} {B e s n c : Nat} {A : Option Addr} {cs : List Value} (h : Own w B e s A n c cs) (k : Nat) : Own (w.drewN k) B e s A n c cs := h
theorem Blk.drewN {w : World} {g e : Nat} {cs : Array Value} (h : Blk w g e cs) (k : Nat) : Blk (w.drewN k) g e cs := h

/-- A bound of a cut: left out (then it is d), or an integer. -/
inductive Bnd (a : Act) : Option Operand → Nat → Nat → Prop
  | out (d : Nat) : Bnd a none d d
  | at_ {x : Operand} {k : IntKind} {i d : Nat} (h : a.eval x = .int k (i : Int)) : Bnd a (some x) i d

theorem Elt.sizeE {P : Program} {t e s b : Nat} (E : Elt P t e s b) (w : World) : (sizeOf e).run P w = .ok s w := by
  obtain ⟨i, z, h1, h2, h3, h4, h5⟩ := E.info
  simp [sizeOf, typeInfo, h1, h3]

theorem slice_step {P : Program} {t e s b : Nat} (E : Elt P t e s b) {w : World} {ops : Array Oper} {rest : List Oper} {o : Oper} {a : Act} {Q : Exit → Act → World → Prop} (hw : Region.wanted o (yielded ops a.tmps) = true)
    (x : Operand) (lo hi : Option Operand) (ho : o.op = .slice t x lo hi none) {A : Option Addr} {n c : Nat} (hx : a.eval x = .slice A n c) {i j : Nat} (hl : Bnd a lo i 0) (hh : Bnd a hi j n)
    {D : Nat} {cs : List Value} (hrow : Row w D s A n cs) (hij : i ≤ j) (hj : j ≤ n) (hn : n ≤ c)
    (k : ∀ A2, Row w D s A2 (j - i) ((cs.take (j * s)).drop (i * s)) → wpList P ops Q rest (a.put o.dst (.slice A2 (j - i) (c - i))) w) : wpList P ops Q (o :: rest) a w := by
  refine op_step hw fun K hK => ?_
  have hr : (Instr.sliceAt t (.slice A n c) (lo.map a.eval) (hi.map a.eval) none).run P w = .ok (.slice (if c = i then A else A.map (·.add (i * s))) (j - i) (c - i)) w := by
    have h1 : (lo.map a.eval = none ∧ i = 0) ∨ ∃ kd, lo.map a.eval = some (.int kd (i : Int)) := by
      cases hl with
      | out d => exact .inl ⟨rfl, rfl⟩
      | at_ h => exact .inr ⟨_, congrArg some h⟩
    have h2 : (hi.map a.eval = none ∧ j = n) ∨ ∃ kd, hi.map a.eval = some (.int kd (j : Int)) := by
      cases hh with
      | out d => exact .inl ⟨rfl, rfl⟩
      | at_ h => exact .inr ⟨_, congrArg some h⟩
    have hjc : j ≤ c := Nat.le_trans hj hn
    rcases h1 with ⟨e1, rfl⟩ | ⟨k1, e1⟩ <;> rcases h2 with ⟨e2, rfl⟩ | ⟨k2, e2⟩ <;> rw [e1, e2] <;>
      simp [Instr.sliceAt, Instr.slice, Instr.sliceBounds, Instr.sliceBound, asIntOf, run_underlying E.under, E.sizeE w, Sem.run_bind, hij, hjc]
  unfold Oper.wp execOp
  simp only [ho, hx, Sem.run_bind, Sem.run_pure, Result.andThen_ok, Option.map_none, hr]
  exact hK _ _ (k _ (hrow.part hij hj hn))
end Go.Mny
