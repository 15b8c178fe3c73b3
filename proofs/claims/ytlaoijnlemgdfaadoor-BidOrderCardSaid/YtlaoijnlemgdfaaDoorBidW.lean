/- Bids as values; the walk of bid.Vow. -/
import Derived.Test.YtlaoijnlemgdfaaDoorBidBigW
import Derived.Test.YtlaoijnlemgdfaaDoorVowW
import Derived.Laws.ResultCell
namespace Go.Proofs.YtlaoijnlemgdfaaDoor
set_option linter.unusedVariables false
open Go.RowKit Go.Mny
/-- a bid -/
structure Bd where
  who : Int
  amt : Int
  salt : List Nat
def bc (b : Bd) : List Value := .int .i64 b.who :: .int .i64 b.amt :: bytes b.salt
def bidV (b : Bd) : Value := .agg (bc b).toArray
/-- a bid that a program can hold -/
def BdOk (b : Bd) : Prop := b.salt.length = 32 ∧ B8 b.salt ∧ (Lit.int .i64 b.who).wf = true ∧ (Lit.int .i64 b.amt).wf = true
theorem bc_len {b : Bd} (h : b.salt.length = 32) : (bc b).length = 34 := by simp [bc, bytes, up, h]
theorem bc_one (b : Bd) : ∀ v ∈ bc b, v.oneCell' = true := by
  intro v hv
  simp only [bc, List.mem_cons] at hv
  rcases hv with rfl | rfl | hv
  · rfl
  · rfl
  · exact bytes_one _ v hv
theorem bidT : RowT Tryd.prog 62 34 := ⟨⟨_, Tryd.underlying62, rfl⟩, by kernel_rfl⟩
/-- a value of several cells is put into a variable of its own -/
theorem box_row {P : Program} {t : Nat} {w : World} {ops : Array Oper} {rest : List Oper} {o : Oper} {a : Act} {Q : Exit → Act → World → Prop} (hw : Region.wanted o (yielded ops a.tmps) = true)
    (x : Operand) (ho : o.op = .box t x) {cs : Array Value} (hx : a.eval x = .agg cs) (h : ∀ g w2, g = w.heap.size → w2.heap.size = g + 1 → Blk w2 g t cs → Below g w w2 → wpList P ops Q rest (a.put o.dst (.pointer (some ⟨g, 0, none⟩))) w2) :
    wpList P ops Q (o :: rest) a w := by
  refine op_step hw fun K hK => ?_
  have hr : (Instr.box t (.agg cs)).run P w = .ok (.pointer (some ⟨w.heap.size, 0, none⟩)) (w.alloc (.cells cs t)) := rfl
  unfold Oper.wp execOp
  simp only [ho, hx, Sem.run_bind, Sem.run_pure, Result.andThen_ok, hr]
  exact hK _ _ (h _ _ rfl (by simp) (Blk.new _ _ _) ((Below.refl _ _).alloc (Nat.le_refl _) _))
theorem results_row_tmp {P : Program} {fn : Func} {p u : Tmp} {ty : TypeId} (h : fn.results = #[.cell p ty, .tmp u]) (tmps : Array Value) (w : World) (g : Nat) (t : TypeId) (cs : Array Value) (fr : Nat × Nat) (d : TypeDesc)
    (hp : tmps.getD p undef = .pointer (some ⟨g, 0, none⟩)) (hg : w.heap[g]? = some (.cells cs t fr))
    (hu : P.underlying ty = some d) (hd : (match d with | .struct _ | .array _ _ => true | _ => false) = true) (hi : (P.info? ty).map (·.size) = some cs.size) :
    (results fn tmps).run P w = .ok (.tuple #[.agg cs, tmps.getD u undef]) w := by
  rw [results_cell_tmp h, hp]
  simp only [asAddr, Sem.run_pure, Result.andThen_ok, run_loadVar_row w g t ty cs fr d hg hu hd hi]
def vowB (b : Bd) : List Nat := vowN b.salt (bigN b.who.toNat 4 ++ bigN b.amt.toNat 8)
def vowOk (b : Bd) : Prop := 0 ≤ b.who ∧ b.who < 4294967296 ∧ 0 ≤ b.amt
instance (b : Bd) : Decidable (vowOk b) := by unfold vowOk; infer_instance
theorem parts2 {w : World} {B B' gA gB t f : Nat} {la lb : List Nat} (oA : Own w B t 1 (some ⟨gA, 0, none⟩) 4 4 (bytes la)) (oB : Own w B' t 1 (some ⟨gB, 0, none⟩) 8 8 (bytes lb)) :
    Parts (w.alloc (.cells #[.slice (some ⟨gA, 0, none⟩) 4 4, .slice (some ⟨gB, 0, none⟩) 8 8] f)) (w.heap.size + 1) (some ⟨w.heap.size, 0, none⟩) [⟨some ⟨gA, 0, none⟩, 4, 4, la⟩, ⟨some ⟨gB, 0, none⟩, 8, 8, lb⟩] := by
  refine ⟨Row.lit_at w f #[.slice (some ⟨gA, 0, none⟩) 4 4, .slice (some ⟨gB, 0, none⟩) 8 8] 2 _ _ rfl rfl rfl, ?_⟩
  intro p hp
  simp only [List.mem_cons, List.not_mem_nil, or_false] at hp
  rcases hp with rfl | rfl
  · exact ((Row.of_own oA).alloc (Nat.le_refl _) _).more (by omega)
  · exact ((Row.of_own oB).alloc (Nat.le_refl _) _).more (by omega)
theorem Blk.cell_of {w : World} {g e : Nat} {cs : List Value} (h : Blk w g e cs.toArray) (i : Nat) : w.cell? ⟨g, i, none⟩ = cs[i]? := by rw [h.cell]; simp
theorem Blk.part {w : World} {g e : Nat} {b : Bd} (h : Blk w g e (bc b).toArray) : w.rangeAt g 2 ((up b.salt).map (Value.int .u8)) := fun j v hv => by
  rw [Blk.cell_of h, show 2 + j = j + 1 + 1 by omega]; exact hv
set_option maxHeartbeats 2000000 in
set_option maxRecDepth 100000 in
theorem vow_yes (b : Bd) (w : World) (hk : BdOk b) (hv : vowOk b) (hL : Laid w) (h0 : 1 < w.heap.size) :
    Calls Tryd.prog 28 #[bidV b] w fun e w' => e = .returned (.tuple #[.agg (cellsOf .u8 (up (vowB b))), .nilIface]) ∧ Below w.heap.size w w' := by
  obtain ⟨k1, k2, k3, k4⟩ := hk
  obtain ⟨v1, v2, v3⟩ := hv
  have a4 := bounds_i64 k4
  obtain ⟨x, hx⟩ := Int.eq_ofNat_of_zero_le v1
  obtain ⟨y, hy⟩ := Int.eq_ofNat_of_zero_le v3
  have hvb : vowB b = vowN b.salt (bigN x 4 ++ bigN y 8) := by unfold vowB; rw [hx, hy]; rfl
  rw [hvb]
  have HL := hid hL; have S8 := hid k2; have HS := hid k1
  have HX := hid (show x ≤ 9223372036854775807 by omega); have HY := hid (show y ≤ 9223372036854775807 by omega)
  have HSL := hid (show (up b.salt).length = 32 by rw [up_len]; exact k1)
  have HXE := hid hx; have HYE := hid hy; have BL := hid (bc_len k1)
  have q1 : (0 : Int) ≤ (x : Int) := by omega
  have q2 : (x : Int) / 4294967296 = 0 := by omega
  have q3 : (0 : Int) ≤ (y : Int) := by omega
  clear hL k1 k2 k3 k4 hvb v1 v2 v3 a4 hx hy
  unfold bidV
  go_enter Tryd.func28, Tryd.ntmps28
  go_wp2_with (with_reducible refine halt_op (some 1) (.box _ _) (fun K hK => ?_))
  refine go_on hK ?_; clear hK
  refine box_row (cs := (bc b).toArray) rfl (.tmp 0) rfl rfl ?_
  rintro g1 w1 hg1 s1 b1 e1
  go_wp2_with (with_reducible refine halt_op (some 2) (.alloc _) (fun K hK => ?_))
  refine go_on hK ?_; clear hK
  refine alloc_arr digT rfl rfl ?_
  rintro g2 w2 hg2 s2 b2 e2
  have h12 : g1 < g2 := by omega
  have hw1 : w.heap.size ≤ g1 := by omega
  have hg2w : g2 ≤ w2.heap.size := by omega
  have hg2s : g2 < w2.heap.size := by omega
  have hwg2 : w.heap.size ≤ g2 := by omega
  have B1 := hid (b1.below e2 h12); have B2 := hid b2
  have E2 := hid ((e1.trans (e2.mono (by omega))).mono hw1)
  have C0 : Hid (∀ W, Below g2 w2 W → W.cell? ⟨g1, 0, none⟩ = some (.int .i64 (x : Int)) ∧ W.cell? ⟨g1, 1, none⟩ = some (.int .i64 (y : Int))) := hid fun W hW => by
    have hb := (unhid B1).below hW h12
    refine ⟨?_, ?_⟩
    · rw [Blk.cell_of hb, ← HXE.out]; rfl
    · rw [Blk.cell_of hb, ← HYE.out]; rfl
  have CR : Hid (∀ W, Below g2 w2 W → W.rangeAt g1 2 ((up b.salt).map (Value.int .u8))) := hid fun W hW => Blk.part ((unhid B1).below hW h12)
  obtain ⟨c0, c1⟩ := C0.out w2 (Below.refl _ _)
  clear b1 b2 e1 e2 hg1 hg2 s1 s2
  go_wp2_with fail
  have hbd : Below w2.heap.size w2 w2.drew := (Below.refl _ _).drew
  clear c0 c1 q2
  refine wp_region_held_drew (S := fun w' => Below g2 w2 w') (by kernel_rfl) ((Below.refl _ _).drew) (fun hS => ?_)
  refine wpAnyH_take (i := 0) (v := .pointer (some ⟨g1, 2, none⟩)) rfl (by kernel_rfl) (by kernel_rfl) (by kernel_rfl) (fun _ _ _ h => h) (yields_of rfl (fun w => by go_simp)) hS ?_
  simp only [Act.put, List.setIfInBounds_toArray]
  refine wpAnyH_take (i := 1) (v := .agg (cellsOf .u8 (up b.salt))) rfl (by kernel_rfl) (by kernel_rfl) (by kernel_rfl) (fun _ _ _ h => h) (yields_load digT rfl (.tmp 20) rfl rfl HSL.out (fun w h => CR.out w h)) hS ?_
  simp only [Act.put]
  refine wpAnyH_take (i := 2) (v := .pointer (some ⟨g1, 0, none⟩)) rfl (by kernel_rfl) (by kernel_rfl) (by kernel_rfl) (fun _ _ _ h => h) (yields_of rfl (fun w => by go_simp)) hS ?_
  simp only [Act.put]
  refine wpAnyH_take (i := 3) (v := .int .i64 (x : Int)) rfl (by kernel_rfl) (by kernel_rfl) (by kernel_rfl) (fun _ _ _ h => h) (.inl ⟨rfl, fun w h => by have e := (C0.out w h).1; go_simp⟩) hS ?_
  simp only [Act.put]
  refine wpAnyH_take (i := 5) (v := .pointer (some ⟨g1, 1, none⟩)) rfl (by kernel_rfl) (by kernel_rfl) (by kernel_rfl) (fun _ _ _ h => h) (yields_of rfl (fun w => by go_simp)) hS ?_
  simp only [Act.put]
  refine wpAnyH_take (i := 6) (v := .int .i64 (y : Int)) rfl (by kernel_rfl) (by kernel_rfl) (by kernel_rfl) (fun _ _ _ h => h) (.inl ⟨rfl, fun w h => by have e := (C0.out w h).2; go_simp⟩) hS ?_
  simp only [Act.put]
  refine wpAnyH_ready (rs := [4]) (by kernel_rfl) (by simp) ?_
  refine AllReadyH.cons (o := _) rfl (fun K hK => ?_) AllReadyH.nil
  go_simp
  refine (big_any x 4 _ HX.out (by decide)).mono ?_
  rintro e wq1 ⟨gA, rfl, oA, hq1⟩
  have hb1 := hbd.trans (hq1.mono hbd.size)
  go_wp2_with fail
  refine hK.out _ _ (hb1.mono hg2w) (fun _ => ?_)
  refine wpAnyH_ready (rs := [7]) (by kernel_rfl) (by simp) ?_
  refine AllReadyH.cons (o := _) rfl (fun K hK => ?_) AllReadyH.nil
  go_simp
  refine (big_any y 8 _ HY.out (by decide)).mono ?_
  rintro e wq2 ⟨gB, rfl, oB, hq2⟩
  have hb2 := hb1.trans (hq2.mono hb1.size)
  have oA := oA.below hq2 (Nat.le_refl _)
  go_wp2_with fail
  refine hK.out _ _ (hb2.mono hg2w) (fun _ => ?_)
  refine wpAnyH_ready (rs := [8]) (by kernel_rfl) (by simp) ?_
  refine AllReadyH.cons (o := _) rfl (fun K hK => ?_) AllReadyH.nil
  go_simp
  have hb3 := hb2.alloc hb2.size (.cells #[.slice (some ⟨gA, 0, none⟩) 4 4, .slice (some ⟨gB, 0, none⟩) 8 8] 24)
  refine hK.out _ _ (hb3.mono hg2w) (fun _ => ?_)
  refine wpAnyH_ready (rs := [9]) (by kernel_rfl) (by simp) ?_
  refine AllReadyH.cons (o := _) rfl (fun K hK => ?_) AllReadyH.nil
  go_simp
  refine (concat_any [⟨some ⟨gA, 0, none⟩, 4, 4, bigN x 4⟩, ⟨some ⟨gB, 0, none⟩, 8, 8, bigN y 8⟩] _ 2 2 12 _ _ (parts2 oA oB) rfl (by simp [catN, bigN_len]) (by simp) (by decide) (by decide)).mono ?_
  rintro e wq3 ⟨A3, c3, rfl, o3, hb4⟩
  rw [show catN [⟨some ⟨gA, 0, none⟩, 4, 4, bigN x 4⟩, ⟨some ⟨gB, 0, none⟩, 8, 8, bigN y 8⟩] = bigN x 4 ++ bigN y 8 by simp [catN]] at o3
  have hb5 := hb3.trans (hb4.mono hb3.size)
  go_wp2_with fail
  refine hK.out _ _ (hb5.mono hg2w) (fun _ => ?_)
  refine wpAnyH_ready (rs := [10]) (by kernel_rfl) (by simp) ?_
  refine AllReadyH.cons (o := _) rfl (fun K hK => ?_) AllReadyH.nil
  go_simp
  refine (seal_any b.salt (bigN x 4 ++ bigN y 8) A3 12 c3 wq3.heap.size wq3 HS.out S8.out (Row.of_own o3) (Nat.le_refl _) (by decide) ((bigN_B8 x 4).append (bigN_B8 y 8)) ((unhid HL).below ((unhid E2).trans (hb5.mono (unhid E2).size)) h0) (by have := (unhid E2).size; have := hb5.size; omega)).mono ?_
  rintro e wq4 ⟨rfl, hb6⟩
  have hb7 := hb5.trans (hb6.mono hb5.size)
  go_wp2_with fail
  refine hK.out _ _ (hb7.mono hg2w) (fun _ => ?_)
  refine wpAnyH_ready (rs := [11]) (by kernel_rfl) (by simp) ?_
  refine AllReadyH.cons (o := _) rfl (fun K hK => ?_) AllReadyH.nil
  refine store_arr_wp digT (l := up (vowN b.salt (bigN x 4 ++ bigN y 8))) (.tmp 2) (.tmp 30) rfl rfl rfl (sum_len_u _) ((unhid B2).below hb7 hg2s) (by simp [cellsOf]) ?_
  intro w8 b8 g8
  have hS8 : Below g2 w2 w8 := (hb7.mono hg2w).grown g8 (by have := hb7.size; omega) (fun q hq => by injection hq with hq; omega)
  have B8 := hid b8
  have E8 := hid (((unhid E2).trans ((hb7.mono hg2w).mono hwg2)).grown g8 (by have := hb7.size; have := (unhid E2).size; omega) (fun q hq => by injection hq with hq; omega))
  refine hK.out _ _ hS8 (fun _ => ?_)
  refine wpAnyH_ready (rs := [12]) (by kernel_rfl) (by simp) ?_
  refine AllReadyH.cons (o := _) rfl (fun K hK => ?_) AllReadyH.nil
  go_simp
  refine hK.out _ _ hS8 (fun _ => ?_)
  refine wpAnyH_done (by kernel_rfl) ?_ _
  go_wp2_with fail
  exact bodyPost_ret (results_row_tmp rfl _ _ g2 _ (cellsOf .u8 (up (vowN b.salt (bigN x 4 ++ bigN y 8)))) (0, 0) _ rfl (unhid B8) digT.under rfl (by rw [cellsOf_size, show (up (vowN b.salt (bigN x 4 ++ bigN y 8))).length = 32 from sum_len_u _]; exact digT.size)) rfl ⟨rfl, unhid E8⟩
set_option maxHeartbeats 2000000 in
set_option maxRecDepth 100000 in
theorem vow_no (b : Bd) (w : World) (hk : BdOk b) (hv : ¬ vowOk b) :
    Calls Tryd.prog 28 #[bidV b] w fun e w' => e = .returned (.tuple #[.agg (cellsOf .u8 (List.replicate 32 0)), .iface 38 (.int .i64 2)]) ∧ Below w.heap.size w w' := by
  obtain ⟨k1, k2, k3, k4⟩ := hk
  have a3 := bounds_i64 k3
  obtain ⟨x, hx⟩ : ∃ x, b.who = x := ⟨_, rfl⟩
  obtain ⟨y, hy⟩ : ∃ y, b.amt = y := ⟨_, rfl⟩
  have HXE := hid hx; have HYE := hid hy
  have hcase : x < 0 ∨ (¬ x < 0 ∧ 4294967296 ≤ x) ∨ (¬ x < 0 ∧ x / 4294967296 = 0 ∧ y < 0) := by
    unfold vowOk at hv
    rw [hx] at a3
    rw [hx, hy] at hv
    omega
  clear k1 k2 k3 k4 hv a3 hx hy
  unfold bidV
  go_enter Tryd.func28, Tryd.ntmps28
  go_wp2_with (with_reducible refine halt_op (some 1) (.box _ _) (fun K hK => ?_))
  refine go_on hK ?_; clear hK
  refine box_row (cs := (bc b).toArray) rfl (.tmp 0) rfl rfl ?_
  rintro g1 w1 hg1 s1 b1 e1
  go_wp2_with (with_reducible refine halt_op (some 2) (.alloc _) (fun K hK => ?_))
  refine go_on hK ?_; clear hK
  refine alloc_arr digT rfl rfl ?_
  rintro g2 w2 hg2 s2 b2 e2
  have h12 : g1 < g2 := by omega
  have hw1 : w.heap.size ≤ g1 := by omega
  have hg2s : g2 < w2.heap.size := by omega
  have hwg2 : w.heap.size ≤ g2 := by omega
  have B1 := b1.below e2 h12
  have B2 := hid b2
  have E2 := hid ((e1.trans (e2.mono (by omega))).mono hw1)
  have c0 : w2.cell? ⟨g1, 0, none⟩ = some (.int .i64 x) := by rw [Blk.cell_of B1, ← HXE.out]; rfl
  have c1 : w2.cell? ⟨g1, 1, none⟩ = some (.int .i64 y) := by rw [Blk.cell_of B1, ← HYE.out]; rfl
  clear b1 b2 e1 e2 hg1 hg2 s1 s2 B1
  rcases hcase with t1 | ⟨t1, t2⟩ | ⟨t1, t2, t3⟩
  · go_wp2_with (with_reducible refine halt_op none (.store _ _ _) (fun K hK => ?_))
    refine go_on hK ?_; clear hK
    refine store_arr digT (l := List.replicate 32 0) rfl (.tmp 2) (.tmp 18) rfl rfl rfl (by simp) (unhid B2) (by simp [cellsOf]) ?_
    intro w8 b8 g8
    have B8 := hid b8
    have E8 := hid ((unhid E2).grown g8 (unhid E2).size (fun q hq => by injection hq with hq; omega))
    clear b8 g8 c0 c1
    go_wp2_with fail
    exact bodyPost_ret (results_row_tmp rfl _ _ g2 _ (cellsOf .u8 (List.replicate 32 0)) (0, 0) _ rfl (unhid B8) digT.under rfl (by rw [cellsOf_size]; exact digT.size)) rfl ⟨rfl, unhid E8⟩
  · have t4 : (0 : Int) < x / 4294967296 := by omega
    go_wp2_with (with_reducible refine halt_op none (.store _ _ _) (fun K hK => ?_))
    refine go_on hK ?_; clear hK
    refine store_arr digT (l := List.replicate 32 0) rfl (.tmp 2) (.tmp 18) rfl rfl rfl (by simp) (unhid B2) (by simp [cellsOf]) ?_
    intro w8 b8 g8
    have B8 := hid b8
    have E8 := hid ((unhid E2).grown g8 (unhid E2).size (fun q hq => by injection hq with hq; omega))
    clear b8 g8 c0 c1
    go_wp2_with fail
    exact bodyPost_ret (results_row_tmp rfl _ _ g2 _ (cellsOf .u8 (List.replicate 32 0)) (0, 0) _ rfl (unhid B8) digT.under rfl (by rw [cellsOf_size]; exact digT.size)) rfl ⟨rfl, unhid E8⟩
  · go_wp2_with (with_reducible refine halt_op none (.store _ _ _) (fun K hK => ?_))
    refine go_on hK ?_; clear hK
    refine store_arr digT (l := List.replicate 32 0) rfl (.tmp 2) (.tmp 18) rfl rfl rfl (by simp) (unhid B2) (by simp [cellsOf]) ?_
    intro w8 b8 g8
    have B8 := hid b8
    have E8 := hid ((unhid E2).grown g8 (unhid E2).size (fun q hq => by injection hq with hq; omega))
    clear b8 g8 c0 c1
    go_wp2_with fail
    exact bodyPost_ret (results_row_tmp rfl _ _ g2 _ (cellsOf .u8 (List.replicate 32 0)) (0, 0) _ rfl (unhid B8) digT.under rfl (by rw [cellsOf_size]; exact digT.size)) rfl ⟨rfl, unhid E8⟩
end Go.Proofs.YtlaoijnlemgdfaaDoor
