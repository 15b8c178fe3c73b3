/- The walk of the law KeySteps. -/
import Derived.Test.YthpdpgjpkpkebaaDoorKeyStepW
import Derived.Deep.RegionHeld3
namespace Go.Proofs.YthpdpgjpkpkebaaDoor
set_option linter.unusedVariables false
open Go.RowKit Go.Mny
theorem nats_of {l : List Int} (h : ∀ z ∈ l, (Lit.int .u8 z).wf = true) : ∃ m : List Nat, l = up m ∧ B8 m := by
  refine ⟨l.map Int.toNat, ?_, ?_⟩
  · unfold up
    rw [List.map_map]
    conv => lhs; rw [← List.map_id l]
    refine List.map_congr_left fun z hz => ?_
    have := bounds_u8 (h z hz)
    simp; omega
  · intro x hx
    obtain ⟨z, hz, rfl⟩ := List.mem_map.1 hx
    have := bounds_u8 (h z hz)
    omega
theorem yields_neq {P : Program} {t e n : Nat} {k : IntKind} (T : ArrI P t e n k) (hg : P.eqGuardType P.depth t = false) {ops : Array Oper} {S : World → Prop} {o : Oper} {a : Act} (hw : Region.wanted o (yielded ops a.tmps) = true)
    (x y : Operand) (yt : TypeId) (ho : o.op = .binOp .neq t x y yt) {l1 l2 : List Int} (hx : a.eval x = .agg (cellsOf k l1)) (hy : a.eval y = .agg (cellsOf k l2)) (h1 : l1.length = n) (h2 : l2.length = n)
    {b : Bool} (hb : b = decide (l1 ≠ l2)) : YieldsIf P ops S o (.bool b) a := by
  refine .inl ⟨hw, fun w _ => ?_⟩
  have e1 : (binOp .neq t (.agg (cellsOf k l1)) (.agg (cellsOf k l2))).run P w = .ok (.bool b) w := by
    rw [run_neq_struct, run_eq_arr T w 9998 l1 l2 h1 h2, hb]; by_cases h : l1 = l2 <;> simp [h]
  have e2 : (eqGuard .neq t x y (.agg (cellsOf k l1)) (.agg (cellsOf k l2))).run P w = .ok () w := by
    unfold eqGuard; simp [run_program, Sem.run_bind, hg]
  unfold execOp
  simp only [ho, hx, hy, Sem.run_bind, Sem.run_pure, Result.andThen_ok, e1, e2]
theorem noGuard25 : Tryd.prog.eqGuardType Tryd.prog.depth 25 = false := by kernel_rfl
theorem up_inj {a b : List Nat} (h : up a = up b) : a = b := by
  unfold up at h
  exact (List.map_inj_right (fun x y h => Int.ofNat.inj h)).1 h
def zero32 : List Nat := List.replicate 32 0
theorem zero32_len : zero32.length = 32 := rfl
theorem zero32_B8 : B8 zero32 := by unfold B8; decide
set_option maxRecDepth 100000 in
theorem step_fact : stepN 1 zero32 ≠ zero32 := by decide +kernel
set_option maxHeartbeats 4000000 in
set_option maxRecDepth 100000 in
theorem keySteps_walk (l0 : List Int) (a1 a2 : Int) (w : World) (q0 : l0.length = 32) (f0 : ∀ z ∈ l0, (Lit.int .u8 z).wf = true) (f1 : (Lit.int .i64 a1).wf = true) (f2 : (Lit.int .i64 a2).wf = true) (hL : Laid w) (h0 : 0 < w.heap.size) :
    Calls Tryd.prog 8 #[.agg (l0.map (Value.int .u8)).toArray, .int .i64 a1, .int .i64 a2] w fun e w' => e = .returned (.bool true) ∧ Below w.heap.size w w' := by
  have v1 := bounds_i64 f1
  have v2 := bounds_i64 f2
  obtain ⟨d, rfl, m8⟩ := nats_of f0
  rw [up_len] at q0
  have HL := hid hL; have M8 := hid m8; have DL := hid q0
  clear f0 f1 f2 hL m8 q0
  change Calls _ _ #[.agg (cellsOf .u8 (up d)), _, _] _ _
  go_enter Tryd.func8, Tryd.ntmps8
  go_wp2_with (with_reducible refine halt_op (some 3) (.box _ _) (fun K hK => ?_))
  refine go_on hK ?_; clear hK
  refine box_arr (k := .u8) (l := up d) rfl (.tmp 0) rfl rfl ?_
  rintro g1 w1 hg1 s1 b1 e1
  have hge : w.heap.size ≤ g1 := by omega
  have E1 := hid (e1.mono hge); have B1 := hid b1
  clear hg1 e1 b1
  by_cases c1 : a1 < 0
  · go_wp2_with fail
    go_ret
    exact ⟨rfl, unhid E1⟩
  by_cases c2 : a2 < 0
  · go_wp2_with fail
    go_ret
    exact ⟨rfl, unhid E1⟩
  by_cases c3 : 200 < a1
  · go_wp2_with fail
    go_ret
    exact ⟨rfl, unhid E1⟩
  by_cases c4 : 200 < a2
  · go_wp2_with fail
    go_ret
    exact ⟨rfl, unhid E1⟩
  obtain ⟨m, rfl⟩ := Int.eq_ofNat_of_zero_le (show 0 ≤ a1 by omega)
  obtain ⟨n, rfl⟩ := Int.eq_ofNat_of_zero_le (show 0 ≤ a2 by omega)
  go_wp2_with fail
  refine (step_any zero32 1 _ zero32_len zero32_B8 (by omega) ((unhid HL).below (unhid E1) h0) (by omega)).mono ?_
  rintro e w2 ⟨rfl, hb2⟩
  have hl1 := (unhid B1).lt'
  have B2 := hid ((unhid B1).below hb2 hl1)
  have E2 := hid ((unhid E1).trans (hb2.mono (by omega)))
  clear hb2 E1 B1
  go_wp2_with (with_reducible refine halt_op (some 7) (.alloc _) (fun K hK => ?_))
  refine go_on hK ?_; clear hK
  refine alloc_arr digT rfl rfl ?_
  rintro g7 w3 hg7 s3 b3 e3
  have hge7 : w.heap.size ≤ g7 := by have := (unhid E2).size; omega
  have fl : (stepN 1 zero32).length = 32 := (stepN_ok _ zero32_len zero32_B8 1).1
  refine store_arr digT (l := up (stepN 1 zero32)) rfl (.tmp 7) (.tmp 23) rfl rfl rfl (by rw [up_len]; exact fl) b3 (by simp [cellsOf]) ?_
  intro w4 b4 g4
  have g17 : g1 < g7 := by have := (unhid B2).lt'; omega
  have e4 : Below g7 w2 w4 := Below.grown e3 g4 (by omega) (fun q hq => by injection hq with hq; omega)
  have B4 := hid ((unhid B2).below e4 g17)
  have E4 := hid ((unhid E2).trans (e4.mono hge7))
  have F4 := hid b4
  have FN := hid step_fact
  have FL := hid fl
  clear b3 e3 b4 g4 e4 hg7 s3 B2 E2 fl
  generalize stepN 1 zero32 = f at F4 FN FL
  obtain ⟨x1, hx1⟩ : ∃ x, stepN m d = x := ⟨_, rfl⟩
  obtain ⟨x2, hx2⟩ : ∃ x, stepN (m + n) d = x := ⟨_, rfl⟩
  have ok1 := stepN_ok d DL.out M8.out m
  have ok2 := stepN_ok d DL.out M8.out (m + n)
  have hx12 : stepN n x1 = x2 := by rw [← hx1, stepN_add, hx2]
  rw [hx1] at ok1
  rw [hx2] at ok2
  have hlay : ∀ w', Below w4.heap.size w4 w' → Laid w' ∧ 0 < w'.heap.size := fun w' hb => by
    have := (unhid E4).size
    have := hb.size
    exact ⟨(unhid HL).below ((unhid E4).trans (hb.mono (by omega))) h0, by omega⟩
  have C1 : Hid (∀ w', Below w4.heap.size w4 w' → Calls Tryd.prog 21 #[.agg (cellsOf .u8 (up d)), .int .i64 m] w' fun e w'' => e = .returned (.agg (cellsOf .u8 (up x1))) ∧ Below w4.heap.size w4 w'') := fun w' hb => by
    have := step_any d m w' DL.out M8.out (by omega) (hlay w' hb).1 (hlay w' hb).2
    rw [hx1] at this
    exact this.mono fun e w'' ⟨h1, h2⟩ => ⟨h1, hb.trans (h2.mono hb.size)⟩
  have C2 : Hid (∀ w', Below w4.heap.size w4 w' → Calls Tryd.prog 21 #[.agg (cellsOf .u8 (up x1)), .int .i64 n] w' fun e w'' => e = .returned (.agg (cellsOf .u8 (up x2))) ∧ Below w4.heap.size w4 w'') := fun w' hb => by
    have := step_any x1 n w' ok1.1 ok1.2 (by omega) (hlay w' hb).1 (hlay w' hb).2
    rw [hx12] at this
    exact this.mono fun e w'' ⟨h1, h2⟩ => ⟨h1, hb.trans (h2.mono hb.size)⟩
  have C3 : Hid (∀ w', Below w4.heap.size w4 w' → Calls Tryd.prog 21 #[.agg (cellsOf .u8 (up d)), .int .i64 ((m : Int) + (n : Int))] w' fun e w'' => e = .returned (.agg (cellsOf .u8 (up x2))) ∧ Below w4.heap.size w4 w'') := fun w' hb => by
    have := step_any d (m + n) w' DL.out M8.out (by omega) (hlay w' hb).1 (hlay w' hb).2
    rw [hx2] at this
    exact this.mono fun e w'' ⟨h1, h2⟩ => ⟨h1, hb.trans (h2.mono hb.size)⟩
  have C4 : Hid (∀ w', Below w4.heap.size w4 w' → Calls Tryd.prog 21 #[.agg (cellsOf .u8 (up d)), .int .i64 0] w' fun e w'' => e = .returned (.agg (cellsOf .u8 (up d))) ∧ Below w4.heap.size w4 w'') := fun w' hb => by
    have := step_any d 0 w' DL.out M8.out (by omega) (hlay w' hb).1 (hlay w' hb).2
    exact this.mono fun e w'' ⟨h1, h2⟩ => ⟨h1, hb.trans (h2.mono hb.size)⟩
  have X2 := hid ok2.1
  have hdl : (up d).length = 32 := by rw [up_len]; exact DL.out
  have hx2l : (up x2).length = 32 := by rw [up_len]; exact X2.out
  have hfl : (up f).length = 32 := by rw [up_len]; exact FL.out
  have hzl : (up zero32).length = 32 := rfl
  have hfn : true = decide (up f ≠ up zero32) := by simp only [ne_eq, true_eq_decide_iff]; exact fun h => FN.out (up_inj h)
  have hadd : IntKind.i64.wrap ((m : Int) + (n : Int)) = (m : Int) + (n : Int) := IntWalk.i64_in _ (by omega)
  have LD : Hid (∀ w', Below w4.heap.size w4 w' → w'.rangeAt g1 0 ((up d).map (Value.int .u8))) := fun w' hb => ((unhid B4).below hb (unhid B4).lt').range
  have LF : Hid (∀ w', Below w4.heap.size w4 w' → w'.rangeAt g7 0 ((up f).map (Value.int .u8))) := fun w' hb => ((unhid F4).below hb (unhid F4).lt').range
  have HADD := hid hadd; have HDL := hid hdl; have HX2 := hid hx2l; have HFL := hid hfl; have HFN := hid hfn
  clear hlay hx1 hx2 hx12 ok1 ok2 hadd hdl hx2l hfl hfn hzl
  go_wp2_with fail
  refine wp_region_held_drew (S := fun w' => Below w4.heap.size w4 w') (by kernel_rfl) (Below.refl _ _).drew (fun hS => ?_)
  refine wpAnyH_take (i := 0) (oi := { dst := some 24, op := Op.load 25 (Operand.tmp 3), type := 25, pos := "low.go:249", after := #[], guard := none }) (v := .agg (cellsOf .u8 (up d))) rfl (by kernel_rfl) (by kernel_rfl) (by kernel_rfl) (fun _ _ _ h => h) (yields_load digT rfl (.tmp 3) rfl rfl HDL.out (fun w h => LD.out w h)) hS ?_
  try simp only [Act.put, List.setIfInBounds_toArray, List.set_cons_zero, List.set_cons_succ]
  refine wpAnyH_take (i := 1) (oi := { dst := some 25, op := Op.move (Operand.tmp 1), type := 3, pos := "low.go:249", after := #[], guard := none }) (v := .int .i64 (m : Nat)) rfl (by kernel_rfl) (by kernel_rfl) (by kernel_rfl) (fun _ _ _ h => h) (yields_of rfl (fun w => by go_simp)) hS ?_
  try simp only [Act.put, List.setIfInBounds_toArray, List.set_cons_zero, List.set_cons_succ]
  refine wpAnyH_take (i := 3) (oi := { dst := some 27, op := Op.move (Operand.tmp 2), type := 3, pos := "low.go:249", after := #[], guard := none }) (v := .int .i64 (n : Nat)) rfl (by kernel_rfl) (by kernel_rfl) (by kernel_rfl) (fun _ _ _ h => h) (yields_of rfl (fun w => by go_simp)) hS ?_
  try simp only [Act.put, List.setIfInBounds_toArray, List.set_cons_zero, List.set_cons_succ]
  refine wpAnyH_take (i := 5) (oi := { dst := some 29, op := Op.load 25 (Operand.tmp 3), type := 25, pos := "low.go:249", after := #[], guard := none }) (v := .agg (cellsOf .u8 (up d))) rfl (by kernel_rfl) (by kernel_rfl) (by kernel_rfl) (fun _ _ _ h => h) (yields_load digT rfl (.tmp 3) rfl rfl HDL.out (fun w h => LD.out w h)) hS ?_
  try simp only [Act.put, List.setIfInBounds_toArray, List.set_cons_zero, List.set_cons_succ]
  refine wpAnyH_take (i := 6) (oi := { dst := some 30, op := Op.move (Operand.tmp 1), type := 3, pos := "low.go:249", after := #[], guard := none }) (v := .int .i64 (m : Nat)) rfl (by kernel_rfl) (by kernel_rfl) (by kernel_rfl) (fun _ _ _ h => h) (yields_of rfl (fun w => by go_simp)) hS ?_
  try simp only [Act.put, List.setIfInBounds_toArray, List.set_cons_zero, List.set_cons_succ]
  refine wpAnyH_take (i := 7) (oi := { dst := some 31, op := Op.move (Operand.tmp 2), type := 3, pos := "low.go:249", after := #[], guard := none }) (v := .int .i64 (n : Nat)) rfl (by kernel_rfl) (by kernel_rfl) (by kernel_rfl) (fun _ _ _ h => h) (yields_of rfl (fun w => by go_simp)) hS ?_
  try simp only [Act.put, List.setIfInBounds_toArray, List.set_cons_zero, List.set_cons_succ]
  refine wpAnyH_take (i := 8) (oi := { dst := some 32, op := Op.binOp BinOp.add 3 (Operand.tmp 30) (Operand.tmp 31) 3, type := 3, pos := "low.go:249", after := #[{ on := 6, ground := Ground.data }, { on := 7, ground := Ground.data }], guard := none }) (v := .int .i64 ((m : Int) + (n : Int))) rfl (by kernel_rfl) (by kernel_rfl) (by kernel_rfl) (fun _ _ _ h => h) (yields_of rfl (fun w => by have := HADD.out; go_simp)) hS ?_
  try simp only [Act.put, List.setIfInBounds_toArray, List.set_cons_zero, List.set_cons_succ]
  refine wpAnyH_ready (rs := [2]) (by kernel_rfl) (by simp) ?_
  refine AllReadyH.cons (o := { dst := some 26, op := Op.call { callee := Callee.value (Operand.func 21), args := #[Operand.tmp 24, Operand.tmp 25], argTypes := #[25, 3] }, type := 25, pos := "low.go:249", after := #[{ on := 0, ground := Ground.data }, { on := 1, ground := Ground.data }], guard := none }) rfl (fun K hK => ?_) AllReadyH.nil
  go_simp
  refine (unhid C1 _ hS).mono ?_
  rintro e w5 ⟨rfl, hb1⟩
  go_wp2_with fail
  refine hK.out _ _ hb1 (fun hS1 => ?_)
  try simp only [Act.put, List.setIfInBounds_toArray, List.set_cons_zero, List.set_cons_succ]
  refine wpAnyH_ready (rs := [4]) (by kernel_rfl) (by simp) ?_
  refine AllReadyH.cons (o := { dst := some 28, op := Op.call { callee := Callee.value (Operand.func 21), args := #[Operand.tmp 26, Operand.tmp 27], argTypes := #[25, 3] }, type := 25, pos := "low.go:249", after := #[{ on := 2, ground := Ground.data }, { on := 3, ground := Ground.data }, { on := 2, ground := Ground.chain }], guard := none }) rfl (fun K hK => ?_) AllReadyH.nil
  go_simp
  refine (unhid C2 _ hS1).mono ?_
  rintro e w6 ⟨rfl, hb2⟩
  go_wp2_with fail
  refine hK.out _ _ hb2 (fun hS2 => ?_)
  try simp only [Act.put, List.setIfInBounds_toArray, List.set_cons_zero, List.set_cons_succ]
  refine wpAnyH_ready (rs := [9]) (by kernel_rfl) (by simp) ?_
  refine AllReadyH.cons (o := { dst := some 33, op := Op.call { callee := Callee.value (Operand.func 21), args := #[Operand.tmp 29, Operand.tmp 32], argTypes := #[25, 3] }, type := 25, pos := "low.go:249", after := #[{ on := 5, ground := Ground.data }, { on := 8, ground := Ground.data }, { on := 4, ground := Ground.chain }], guard := none }) rfl (fun K hK => ?_) AllReadyH.nil
  go_simp
  refine (unhid C3 _ hS2).mono ?_
  rintro e w7 ⟨rfl, hb3⟩
  go_wp2_with fail
  refine hK.out _ _ hb3 (fun hS3 => ?_)
  try simp only [Act.put, List.setIfInBounds_toArray, List.set_cons_zero, List.set_cons_succ]
  refine wpAnyH_take (i := 10) (oi := { dst := some 34, op := Op.binOp BinOp.eql 25 (Operand.tmp 28) (Operand.tmp 33) 25, type := 4, pos := "low.go:249", after := #[{ on := 4, ground := Ground.data }, { on := 9, ground := Ground.data }], guard := none }) (v := .bool true) rfl (by kernel_rfl) (by kernel_rfl) (by kernel_rfl) (fun _ _ _ h => h) (yields_eql digT noGuard25 rfl (.tmp 28) (.tmp 33) 25 rfl rfl rfl HX2.out HX2.out (by simp)) hS3 ?_
  try simp only [Act.put, List.setIfInBounds_toArray, List.set_cons_zero, List.set_cons_succ]
  refine wpAnyH_take (i := 11) (oi := { dst := some 35, op := Op.move (Operand.tmp 34), type := 4, pos := "low.go:249", after := #[{ on := 10, ground := Ground.data }, { on := 9, ground := Ground.chain }], guard := none }) (v := .bool true) rfl (by kernel_rfl) (by kernel_rfl) (by kernel_rfl) (fun _ _ _ h => h) (yields_of rfl (fun w => by go_simp)) hS3 ?_
  try simp only [Act.put, List.setIfInBounds_toArray, List.set_cons_zero, List.set_cons_succ]
  refine wpAnyH_take (i := 12) (oi := { dst := some 36, op := Op.load 25 (Operand.tmp 3), type := 25, pos := "low.go:249", after := #[{ on := 11, ground := Ground.guard }], guard := some (11, true) }) (v := .agg (cellsOf .u8 (up d))) rfl (by kernel_rfl) (by kernel_rfl) (by kernel_rfl) (fun _ _ _ h => h) (yields_load digT rfl (.tmp 3) rfl rfl HDL.out (fun w h => LD.out w h)) hS3 ?_
  try simp only [Act.put, List.setIfInBounds_toArray, List.set_cons_zero, List.set_cons_succ]
  refine wpAnyH_take (i := 14) (oi := { dst := some 38, op := Op.load 25 (Operand.tmp 3), type := 25, pos := "low.go:249", after := #[{ on := 11, ground := Ground.guard }], guard := some (11, true) }) (v := .agg (cellsOf .u8 (up d))) rfl (by kernel_rfl) (by kernel_rfl) (by kernel_rfl) (fun _ _ _ h => h) (yields_load digT rfl (.tmp 3) rfl rfl HDL.out (fun w h => LD.out w h)) hS3 ?_
  try simp only [Act.put, List.setIfInBounds_toArray, List.set_cons_zero, List.set_cons_succ]
  refine wpAnyH_ready (rs := [13]) (by kernel_rfl) (by simp) ?_
  refine AllReadyH.cons (o := { dst := some 37, op := Op.call { callee := Callee.value (Operand.func 21), args := #[Operand.tmp 36, Operand.const (Value.int IntKind.i64 0)], argTypes := #[25, 3] }, type := 25, pos := "low.go:249", after := #[{ on := 12, ground := Ground.data }, { on := 11, ground := Ground.chain }, { on := 11, ground := Ground.guard }], guard := some (11, true) }) rfl (fun K hK => ?_) AllReadyH.nil
  go_simp
  refine (unhid C4 _ hS3).mono ?_
  rintro e w8 ⟨rfl, hb4⟩
  go_wp2_with fail
  refine hK.out _ _ hb4 (fun hS4 => ?_)
  try simp only [Act.put, List.setIfInBounds_toArray, List.set_cons_zero, List.set_cons_succ]
  refine wpAnyH_take (i := 15) (oi := { dst := some 39, op := Op.binOp BinOp.eql 25 (Operand.tmp 37) (Operand.tmp 38) 25, type := 4, pos := "low.go:249", after := #[{ on := 13, ground := Ground.data }, { on := 14, ground := Ground.data }, { on := 11, ground := Ground.guard }], guard := some (11, true) }) (v := .bool true) rfl (by kernel_rfl) (by kernel_rfl) (by kernel_rfl) (fun _ _ _ h => h) (yields_eql digT noGuard25 rfl (.tmp 37) (.tmp 38) 25 rfl rfl rfl HDL.out HDL.out (by simp)) hS4 ?_
  try simp only [Act.put, List.setIfInBounds_toArray, List.set_cons_zero, List.set_cons_succ]
  refine wpAnyH_take (i := 16) (oi := { dst := some 40, op := Op.pick (Operand.tmp 35) (Operand.tmp 39) (Operand.const (Value.bool false)), type := 4, pos := "low.go:249", after := #[{ on := 11, ground := Ground.data }, { on := 15, ground := Ground.data }], guard := none }) (v := .bool true) rfl (by kernel_rfl) (by kernel_rfl) (by kernel_rfl) (fun _ _ _ h => h) (yields_of rfl (fun w => by go_simp)) hS4 ?_
  try simp only [Act.put, List.setIfInBounds_toArray, List.set_cons_zero, List.set_cons_succ]
  refine wpAnyH_take (i := 17) (oi := { dst := some 41, op := Op.move (Operand.tmp 40), type := 4, pos := "low.go:249", after := #[{ on := 16, ground := Ground.data }, { on := 13, ground := Ground.chain }], guard := none }) (v := .bool true) rfl (by kernel_rfl) (by kernel_rfl) (by kernel_rfl) (fun _ _ _ h => h) (yields_of rfl (fun w => by go_simp)) hS4 ?_
  try simp only [Act.put, List.setIfInBounds_toArray, List.set_cons_zero, List.set_cons_succ]
  refine wpAnyH_take (i := 18) (oi := { dst := some 42, op := Op.load 25 (Operand.tmp 7), type := 25, pos := "low.go:249", after := #[{ on := 17, ground := Ground.guard }], guard := some (17, true) }) (v := .agg (cellsOf .u8 (up f))) rfl (by kernel_rfl) (by kernel_rfl) (by kernel_rfl) (fun _ _ _ h => h) (yields_load digT rfl (.tmp 7) rfl rfl HFL.out (fun w h => LF.out w h)) hS4 ?_
  try simp only [Act.put, List.setIfInBounds_toArray, List.set_cons_zero, List.set_cons_succ]
  refine wpAnyH_take (i := 19) (oi := { dst := some 43, op := Op.build 25 #[], type := 25, pos := "low.go:249", after := #[{ on := 17, ground := Ground.guard }], guard := some (17, true) }) (v := .agg (cellsOf .u8 (up zero32))) rfl (by kernel_rfl) (by kernel_rfl) (by kernel_rfl) (fun _ _ _ h => h) (yields_of rfl (fun w => by kernel_rfl)) hS4 ?_
  try simp only [Act.put, List.setIfInBounds_toArray, List.set_cons_zero, List.set_cons_succ]
  refine wpAnyH_take (i := 20) (oi := { dst := some 44, op := Op.binOp BinOp.neq 25 (Operand.tmp 42) (Operand.tmp 43) 25, type := 4, pos := "low.go:249", after := #[{ on := 18, ground := Ground.data }, { on := 19, ground := Ground.data }, { on := 17, ground := Ground.guard }], guard := some (17, true) }) (v := .bool true) rfl (by kernel_rfl) (by kernel_rfl) (by kernel_rfl) (fun _ _ _ h => h) (yields_neq digT noGuard25 rfl (.tmp 42) (.tmp 43) 25 rfl rfl rfl HFL.out rfl HFN.out) hS4 ?_
  try simp only [Act.put, List.setIfInBounds_toArray, List.set_cons_zero, List.set_cons_succ]
  refine wpAnyH_take (i := 21) (oi := { dst := some 45, op := Op.pick (Operand.tmp 41) (Operand.tmp 44) (Operand.const (Value.bool false)), type := 4, pos := "low.go:249", after := #[{ on := 17, ground := Ground.data }, { on := 20, ground := Ground.data }], guard := none }) (v := .bool true) rfl (by kernel_rfl) (by kernel_rfl) (by kernel_rfl) (fun _ _ _ h => h) (yields_of rfl (fun w => by go_simp)) hS4 ?_
  try simp only [Act.put, List.setIfInBounds_toArray, List.set_cons_zero, List.set_cons_succ]
  refine wpAnyH_ready (rs := [22]) (by kernel_rfl) (by simp) ?_
  refine AllReadyH.cons (o := { dst := some 6, op := Op.assign (Operand.tmp 45), type := 4, pos := "low.go:249", after := #[{ on := 21, ground := Ground.data }, { on := 17, ground := Ground.chain }, { on := 0, ground := Ground.phase }, { on := 1, ground := Ground.phase }, { on := 2, ground := Ground.phase }, { on := 3, ground := Ground.phase }, { on := 4, ground := Ground.phase }, { on := 5, ground := Ground.phase }, { on := 6, ground := Ground.phase }, { on := 7, ground := Ground.phase }, { on := 8, ground := Ground.phase }, { on := 9, ground := Ground.phase }, { on := 10, ground := Ground.phase }, { on := 11, ground := Ground.phase }, { on := 12, ground := Ground.phase }, { on := 13, ground := Ground.phase }, { on := 14, ground := Ground.phase }, { on := 15, ground := Ground.phase }, { on := 16, ground := Ground.phase }, { on := 17, ground := Ground.phase }, { on := 18, ground := Ground.phase }, { on := 19, ground := Ground.phase }, { on := 20, ground := Ground.phase }, { on := 21, ground := Ground.phase }], guard := none }) rfl (fun K hK => ?_) AllReadyH.nil
  go_simp
  refine hK.out _ _ hS4 (fun hS5 => ?_)
  try simp only [Act.put, List.setIfInBounds_toArray, List.set_cons_zero, List.set_cons_succ]
  refine wpAnyH_done (by kernel_rfl) ?_ _
  go_wp2_with fail
  go_ret
  exact ⟨rfl, (unhid E4).trans (hb4.mono (unhid E4).size)⟩
end Go.Proofs.YthpdpgjpkpkebaaDoor
