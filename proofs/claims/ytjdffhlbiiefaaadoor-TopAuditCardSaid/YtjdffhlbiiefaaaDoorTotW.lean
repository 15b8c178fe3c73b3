/- Totals as values: cells, building, comparing; slices of them. -/
import Derived.Test.YtjdffhlbiiefaaaDoorRow
import Derived.Test.YtjdffhlbiiefaaaDoorShaOfW
import Derived.Test.YtjdffhlbiiefaaaDoorAudMath
namespace Go.Proofs.YtjdffhlbiiefaaaDoor
set_option linter.unusedVariables false
set_option linter.unusedSimpArgs false
open Go.RowKit Go.Mny Aud
def tc (t : Tot) : List Value := .int .i64 t.s :: bytes t.d
def totV (t : Tot) : Value := .agg (tc t).toArray
theorem tc_len {t : Tot} (h : t.d.length = 32) : (tc t).length = 33 := by simp [tc, bytes, up, h]
theorem tc_one (t : Tot) : ∀ v ∈ tc t, v.oneCell' = true := by
  intro v hv
  rcases List.mem_cons.1 hv with rfl | hv
  · rfl
  · exact bytes_one _ v hv
theorem totT : RowT Tryd.prog 38 33 := ⟨⟨_, Tryd.underlying38, rfl⟩, by kernel_rfl⟩
def zeroT : Tot := ⟨0, List.replicate 32 0⟩
theorem zeroT_c : (tc zeroT).toArray = #[.int .i64 0] ++ Array.replicate 32 (.int .u8 0) := by kernel_rfl
theorem totZ : (Tryd.prog.info? 38).bind (·.zero) = some (.agg (tc zeroT).toArray) := by kernel_rfl
theorem totsE : Elt Tryd.prog 36 38 33 40 := Elt.of Tryd.underlying36 (.agg (tc zeroT).toArray) (by kernel_rfl) (by simp [Value.cells, tc, zeroT, bytes, up]) (by decide)
theorem totF : Flds Tryd.prog 38 (tc zeroT).toArray #[(0, 1), (1, 32)] := ⟨⟨_, Tryd.underlying38, fun w => by kernel_rfl⟩, totZ⟩
theorem cells_agg (l : List Value) : (Value.agg l.toArray).cells = l.toArray := rfl
theorem fill_tot (s : Int) (d : List Nat) (h : d.length = 32) : Instr.fill ((#[(0, 1), (1, 32)] : Array (Nat × Nat))[·]?) (tc zeroT).toArray [(0, .int .i64 s), (1, .agg (cellsOf .u8 (up d)))] = some (tc ⟨s, d⟩).toArray := by
  have hb : (bytes d).length = 32 := by rw [bytes_len, h]
  rw [fill_step (off := 0) (s := 1) (vs := [.int .i64 s]) rfl rfl rfl (by simp [tc, zeroT, bytes, up]), fill_step (off := 1) (s := 32) (vs := bytes d) rfl rfl hb (by simp [over, tc, zeroT, bytes, up]), fill_done]
  congr 1
  unfold over
  rw [hb]
  simp [tc, zeroT, bytes, up]
theorem fill_d (d : List Nat) (h : d.length = 32) : Instr.fill ((#[(0, 1), (1, 32)] : Array (Nat × Nat))[·]?) (tc zeroT).toArray [(1, .agg (cellsOf .u8 (up d)))] = some (tc ⟨0, d⟩).toArray := by
  have hb : (bytes d).length = 32 := by rw [bytes_len, h]
  rw [fill_step (off := 1) (s := 32) (vs := bytes d) rfl rfl hb (by simp [over, tc, zeroT, bytes, up]), fill_done]
  congr 1
  unfold over
  rw [hb]
  simp [tc, zeroT, bytes, up]
theorem build_tot {w : World} {ops : Array Oper} {rest : List Oper} {o : Oper} {a : Act} {Q : Exit → Act → World → Prop} (hw : Region.wanted o (yielded ops a.tmps) = true)
    (x y : Operand) (ho : o.op = .build 38 #[(0, x), (1, y)]) {s : Int} {d : List Nat} (hd : d.length = 32) (hx : a.eval x = .int .i64 s) (hy : a.eval y = .agg (cellsOf .u8 (up d)))
    (h : wpList Tryd.prog ops Q rest (a.put o.dst (totV ⟨s, d⟩)) w) : wpList Tryd.prog ops Q (o :: rest) a w := by
  refine op_step hw fun K hK => ?_
  have hr := run_build_flds totF #[(0, .int .i64 s), (1, .agg (cellsOf .u8 (up d)))] _ (fill_tot s d hd) w
  unfold Oper.wp execOp
  simp only [ho, List.map_toArray, List.map_cons, List.map_nil, hx, hy, Sem.run_bind, Sem.run_pure, Result.andThen_ok, hr]
  exact hK _ _ h
theorem build_totd {w : World} {ops : Array Oper} {rest : List Oper} {o : Oper} {a : Act} {Q : Exit → Act → World → Prop} (hw : Region.wanted o (yielded ops a.tmps) = true)
    (y : Operand) (ho : o.op = .build 38 #[(1, y)]) {d : List Nat} (hd : d.length = 32) (hy : a.eval y = .agg (cellsOf .u8 (up d)))
    (h : wpList Tryd.prog ops Q rest (a.put o.dst (totV ⟨0, d⟩)) w) : wpList Tryd.prog ops Q (o :: rest) a w := by
  refine op_step hw fun K hK => ?_
  have hr := run_build_flds totF #[(1, .agg (cellsOf .u8 (up d)))] _ (fill_d d hd) w
  unfold Oper.wp execOp
  simp only [ho, List.map_toArray, List.map_cons, List.map_nil, hy, Sem.run_bind, Sem.run_pure, Result.andThen_ok, hr]
  exact hK _ _ h
theorem digT2 : ArrI Tryd.prog 30 5 32 .u8 := ⟨Tryd.underlying30, Tryd.underlying5, by kernel_rfl, by kernel_rfl, by kernel_rfl⟩
theorem run_part_d (s : Int) (l : List Int) (hl : l.length = 32) (w : World) : (part 31 (.int .i64 s :: l.map (Value.int .u8)).toArray 1).run Tryd.prog w = .ok (.agg (cellsOf .u8 l)) w := by
  have h1 : ∀ w, (isAgg 31).run Tryd.prog w = .ok true w := fun w => by kernel_rfl
  have h2 : ∀ w, (sizeOf 31).run Tryd.prog w = .ok 32 w := fun w => by kernel_rfl
  have he : ((.int .i64 s :: l.map (Value.int .u8)).toArray.extract 1 33) = cellsOf .u8 l := by
    apply Array.ext'
    simp [cellsOf, List.extract_eq_take_drop, List.take_of_length_le, hl]
  unfold part
  simp only [Sem.run_bind, h1, h2, Result.andThen_ok, if_true]
  simp [he, hl]
theorem noGuardT : Tryd.prog.eqGuardType Tryd.prog.depth 38 = false := by kernel_rfl
theorem stoodT : Tryd.prog.stoodInHeld 38 = false := by kernel_rfl
theorem fieldsT : ∃ a b : Field, (Tryd.prog.fieldsOf 38).toList = [a, b] ∧ a.name ≠ "_" ∧ b.name ≠ "_" ∧ a.type = 3 ∧ a.offset = 0 ∧ b.type = 31 ∧ b.offset = 1 := by
  unfold Program.fieldsOf
  rw [Tryd.underlying38]
  exact ⟨_, _, rfl, by decide, by decide, rfl, rfl, rfl, rfl⟩
theorem part_s (s : Int) (l : List Value) (w : World) : (part 3 (.int .i64 s :: l).toArray 0).run Tryd.prog w = .ok (.int .i64 s) w := by
  have h1 : (isAgg 3).run Tryd.prog w = .ok false w := by kernel_rfl
  unfold part
  simp [Sem.run_bind, h1]
theorem eq_fields {d : Nat} (s : Int) (l : List Int) (hl : l.length = 32) (w : World) : (Op.eqFields (d + 2) (.int .i64 s :: l.map (Value.int .u8)).toArray (.int .i64 s :: l.map (Value.int .u8)).toArray (Tryd.prog.fieldsOf 38).toList).run Tryd.prog w = .ok true w := by
  obtain ⟨a, b, h, n1, n2, t1, o1, t2, o2⟩ := fieldsT
  have q0 : (Op.equalIn (d + 2) 3 (.int .i64 s) (.int .i64 s)).run Tryd.prog w = .ok true w := by
    rw [run_equalIn_int w (d + 1) 3 .i64 .i64 _ _ Tryd.underlying3]; simp
  have q1 : (Op.equalIn (d + 2) 31 (.agg (cellsOf .u8 l)) (.agg (cellsOf .u8 l))).run Tryd.prog w = .ok true w := by
    rw [run_eq_arr digT w d _ _ hl hl]; simp
  rw [h]
  rw [Op.eqFields, if_pos n1, t1, o1, Sem.run_bind, part_s, Result.andThen_ok, Sem.run_bind, part_s, Result.andThen_ok, Sem.run_bind, q0, Result.andThen_ok, if_neg (by decide)]
  rw [Op.eqFields, if_pos n2, t2, o2, Sem.run_bind, run_part_d s l hl w, Result.andThen_ok, Sem.run_bind, run_part_d s l hl w, Result.andThen_ok, Sem.run_bind, q1, Result.andThen_ok, if_neg (by decide)]
  rw [Op.eqFields]
  rfl
theorem run_eql_tot (t : Tot) (h : t.d.length = 32) (w : World) : (binOp .eql 38 (totV t) (totV t)).run Tryd.prog w = .ok (.bool true) w := by
  have hl : (up t.d).length = 32 := by rw [up_len, h]
  have := eq_fields (d := 9997) t.s (up t.d) hl w
  unfold totV tc
  rw [run_eql_struct, run_equalIn_struct w 9999 38 _ _ (by unfold Program.fieldsOf; rw [Tryd.underlying38]) stoodT, this]
  rfl
end Go.Proofs.YtjdffhlbiiefaaaDoor
