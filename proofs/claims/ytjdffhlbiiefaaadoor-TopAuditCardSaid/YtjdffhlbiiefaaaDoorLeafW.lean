/- The walk of audit.Leaf. -/
import Derived.Test.YtjdffhlbiiefaaaDoorNodeW
namespace Go.Proofs.YtjdffhlbiiefaaaDoor
set_option linter.unusedVariables false
open Go.RowKit Go.Mny Aud
theorem build_tot_wp {w : World} {o : Oper} {a : Act} {K : Act → World → Prop} {Q : Exit → Act → World → Prop}
    (x y : Operand) (ho : o.op = .build 38 #[(0, x), (1, y)]) {s : Int} {d : List Nat} (hd : d.length = 32) (hx : a.eval x = .int .i64 s) (hy : a.eval y = .agg (cellsOf .u8 (up d)))
    (h : K (a.put o.dst (totV ⟨s, d⟩)) w) : o.wp Tryd.prog a w K Q := by
  have hr := run_build_flds totF #[(0, .int .i64 s), (1, .agg (cellsOf .u8 (up d)))] _ (fill_tot s d hd) w
  unfold Oper.wp execOp
  simp only [ho, List.map_toArray, List.map_cons, List.map_nil, hx, hy, Sem.run_bind, Sem.run_pure, Result.andThen_ok, hr]
  exact h
set_option maxHeartbeats 4000000 in
set_option maxRecDepth 100000 in
theorem leaf_any (name : List Nat) (n : Int) (w : World) (hd : name.length = 32) (h8 : B8 name) (hn0 : 0 ≤ n) (hn1 : n ≤ 1125899906842624) (hL : Laid w) (h0 : 0 < w.heap.size) :
    Calls Tryd.prog 5 #[.agg (cellsOf .u8 (up name)), .int .i64 n] w fun e w' => e = .returned (.tuple #[totV (lfT name n), .nilIface]) ∧ Below w.heap.size w w' := by
  have DN := hid hd; have N8 := hid h8; have HL := hid hL
  clear hd h8 hL
  go_enter Tryd.func5, Tryd.ntmps5
  go_wp2_with (with_reducible refine halt_op (some 2) (.box _ _) (fun K hK => ?_))
  refine go_on hK ?_; clear hK
  refine box_arr (k := .u8) (l := up name) rfl (.tmp 0) rfl rfl ?_
  rintro g2 w2 hg2 s2 b2 e2
  go_wp2_with (with_reducible refine halt_op (some 4) (.alloc _) (fun K hK => ?_))
  refine go_on hK ?_; clear hK
  refine alloc_row _ totZ rfl rfl ?_
  rintro g4 w4 hg4e s4 b4 e4
  have h24 : g2 < g4 := by omega
  have hg4 : g4 < w4.heap.size := by omega
  have hwg : w.heap.size ≤ g4 := by omega
  have hg2' : g2 < w4.heap.size := by omega
  have B2 := hid (b2.below e4 h24); have B4 := hid b4
  have E4 := hid ((e2.trans (e4.mono (by omega))).mono (show w.heap.size ≤ g2 by omega))
  have RD : Hid (Hid (∀ W, Below w4.heap.size w4 W → Row W W.heap.size 1 (some ⟨g2, 0, none⟩) 32 (bytes name))) := fun W h => by
    have h1 := Row.of_blk ((unhid B2).below h hg2')
    rw [up_len, DN.out] at h1
    exact h1
  clear b2 b4 e2 e4 hg2 hg4e s2 s4 B2
  go_wp2_with (go_at_call 11; refine (check_ok _ _ hn0 hn1).mono ?_; rintro e w' ⟨rfl, rfl⟩)
  refine wp_region_held_drew (S := fun w' => Below g4 w4 w') (by kernel_rfl) ((Below.refl _ _).drew) (fun hS => ?_)
  refine wpAnyH_take (i := 0) (v := .int .i64 n) rfl (by kernel_rfl) (by kernel_rfl) (by kernel_rfl) (fun _ _ _ h => h) (yields_of rfl (fun w => by go_simp)) hS ?_
  simp only [Act.put, List.setIfInBounds_toArray]
  refine wpAnyH_take (i := 2) (v := .slice (some ⟨g2, 0, none⟩) 32 32) rfl (by kernel_rfl) (by kernel_rfl) (by kernel_rfl) (fun _ _ _ h => h) (yields_of rfl (fun w => by go_simp)) hS ?_
  simp only [Act.put]
  refine wpAnyH_take (i := 3) (v := .int .i64 n) rfl (by kernel_rfl) (by kernel_rfl) (by kernel_rfl) (fun _ _ _ h => h) (yields_of rfl (fun w => by go_simp)) hS ?_
  simp only [Act.put]
  have hbd : Below w4.heap.size w4 w4.drew := (Below.refl _ _).drew
  obtain ⟨w4d, hw4d⟩ : ∃ W, W = w4.drew := ⟨_, rfl⟩
  rw [← hw4d] at hbd
  rw [← hw4d]
  clear hw4d hS
  refine wpAnyH_ready (rs := [1, 4]) (by kernel_rfl) (by simp) ?_
  refine AllReadyH.cons (o := _) rfl (fun K hK => ?_) (AllReadyH.cons (o := _) rfl (fun K hK => ?_) AllReadyH.nil)
  · go_simp
    have hb5 : Below w4.heap.size w4 (w4d.alloc (.cells #[.int .u8 25] 5)) := hbd.alloc hbd.size _
    have rB := Row.lit w4d 5 #[.int .u8 25] 1 (bytes [25]) rfl rfl
    obtain ⟨gB, hgB⟩ : ∃ gB, gB = w4d.heap.size := ⟨_, rfl⟩
    have hsB : (w4d.alloc (.cells #[.int .u8 25] 5)).heap.size = gB + 1 := by rw [hgB]; simp
    rw [← hgB] at rB
    rw [← hgB]
    skip
    obtain ⟨w5, hw5⟩ : ∃ W, W = w4d.alloc (.cells #[.int .u8 25] 5) := ⟨_, rfl⟩
    rw [← hw5] at rB hb5 hsB
    rw [← hw5]
    have RB := hid (rB.more (show gB + 1 ≤ w5.heap.size by omega))
    clear hw5 rB hsB hgB
    refine hK.out _ _ (hb5.mono (Nat.le_of_lt hg4)) (fun _ => ?_)
    refine wpAnyH_ready (rs := [4]) (by kernel_rfl) (by simp) ?_
    refine AllReadyH.cons (o := _) rfl (fun K hK => ?_) AllReadyH.nil
    go_simp
    refine (of_nat n w5 hn0 hn1).mono ?_
    rintro e w6 ⟨AF, cF, rfl, rF, hq6⟩
    have hb6 := hb5.trans (hq6.mono hb5.size)
    have RF := hid rF
    have RB := hid (((unhid RB).below hq6).more hq6.size)
    clear rF
    go_wp2_with fail
    refine hK.out _ _ (hb6.mono (Nat.le_of_lt hg4)) (fun _ => ?_)
    refine wpAnyH_ready (rs := [5]) (by kernel_rfl) (by simp) ?_
    refine AllReadyH.cons (o := _) rfl (fun K hK => ?_) AllReadyH.nil
    go_simp
    have P3 := hid (parts3' (W := w6) 49 (unhid RB) ((unhid RD).out w6 hb6) (unhid RF) 1 32 cF)
    have hb7 := hb6.alloc hb6.size (.cells #[.slice (some ⟨gB, 0, none⟩) 1 1, .slice (some ⟨g2, 0, none⟩) 32 32, .slice AF (szN n).length cF] 49)
    refine hK.out _ _ (hb7.mono (Nat.le_of_lt hg4)) (fun _ => ?_)
    refine wpAnyH_ready (rs := [6]) (by kernel_rfl) (by simp) ?_
    refine AllReadyH.cons (o := _) rfl (fun K hK => ?_) AllReadyH.nil
    go_simp
    refine (concat_any _ _ 3 3 (1 + 32 + (szN n).length) _ _ (unhid P3) rfl (by simp [catN, DN.out]; omega) (by simp) (by have := szN_le n; omega) (by decide)).mono ?_
    rintro e w8 ⟨A8, c8, rfl, o8, hq8⟩
    have hb8 := hb7.trans (hq8.mono hb7.size)
    have R8 := hid (Row.of_own o8)
    have hc8 : catN [⟨some ⟨gB, 0, none⟩, 1, 1, [25]⟩, ⟨some ⟨g2, 0, none⟩, 32, 32, name⟩, ⟨AF, (szN n).length, cF, szN n⟩] = lfB name n := by simp [catN, lfB]
    rw [hc8] at R8
    clear o8 P3 hc8
    go_wp2_with fail
    refine hK.out _ _ (hb8.mono (Nat.le_of_lt hg4)) (fun _ => ?_)
    refine wpAnyH_ready (rs := [7]) (by kernel_rfl) (by simp) ?_
    refine AllReadyH.cons (o := _) rfl (fun K hK => ?_) AllReadyH.nil
    go_simp
    refine (sum_any (lfB name n) A8 _ c8 _ _ (unhid R8) (Nat.le_refl _) (by have := szN_le n; omega) (lfB_B8 N8.out hn0) ((unhid HL).below ((unhid E4).trans (hb8.mono (unhid E4).size)) h0) (by have := (unhid E4).size; have := hb8.size; omega)).mono ?_
    rintro e w9 ⟨rfl, hq9⟩
    have hb9 := hb8.trans (hq9.mono hb8.size)
    clear hq9 R8
    go_wp2_with fail
    refine hK.out _ _ (hb9.mono (Nat.le_of_lt hg4)) (fun _ => ?_)
    refine wpAnyH_ready (rs := [8]) (by kernel_rfl) (by simp) ?_
    refine AllReadyH.cons (o := _) rfl (fun K hK => ?_) AllReadyH.nil
    refine build_tot_wp (.tmp 13) (.tmp 20) rfl (d := Sh2.sum (lfB name n)) (Sh2.sum_len _) rfl rfl ?_
    refine hK.out _ _ (hb9.mono (Nat.le_of_lt hg4)) (fun _ => ?_)
    refine wpAnyH_ready (rs := [9]) (by kernel_rfl) (by simp) ?_
    refine AllReadyH.cons (o := _) rfl (fun K hK => ?_) AllReadyH.nil
    refine store_row_wp totT (vs := tc (lfT name n)) (.tmp 4) (.tmp 21) rfl rfl rfl (tc_len (Sh2.sum_len _)) (tc_one _) ((unhid B4).below hb9 hg4) (by simp [tc, zeroT, bytes, up]) ?_
    intro wA bA gA
    have BA := hid bA
    have hbA : Below g4 w4 wA := (hb9.mono (Nat.le_of_lt hg4)).grown gA (by have := hb9.size; omega) (fun q hq => by injection hq with hq; omega)
    have EA := hid (((unhid E4).trans (hb9.mono (unhid E4).size)).grown gA (by have := hb9.size; have := (unhid E4).size; omega) (fun q hq => by injection hq with hq; omega))
    clear bA gA
    refine hK.out _ _ hbA (fun _ => ?_)
    refine wpAnyH_ready (rs := [10]) (by kernel_rfl) (by simp) ?_
    refine AllReadyH.cons (o := _) rfl (fun K hK => ?_) AllReadyH.nil
    go_simp
    refine hK.out _ _ hbA (fun _ => ?_)
    refine wpAnyH_done (by kernel_rfl) ?_ _
    go_wp2_with fail
    exact bodyPost_ret (results_row_tmp rfl _ _ g4 _ (tc (lfT name n)).toArray (0, 0) _ rfl (unhid BA) Tryd.underlying38 rfl (by rw [List.size_toArray, tc_len (Sh2.sum_len _)]; exact totT.size)) rfl ⟨rfl, unhid EA⟩
  · go_simp
    refine (of_nat n w4d hn0 hn1).mono ?_
    rintro e w5 ⟨AF, cF, rfl, rF, hq5⟩
    have hb5 := hbd.trans (hq5.mono hbd.size)
    have RF := hid rF
    skip
    clear rF
    go_wp2_with fail
    refine hK.out _ _ (hb5.mono (Nat.le_of_lt hg4)) (fun _ => ?_)
    refine wpAnyH_ready (rs := [1]) (by kernel_rfl) (by simp) ?_
    refine AllReadyH.cons (o := _) rfl (fun K hK => ?_) AllReadyH.nil
    go_simp
    have hb6 : Below w4.heap.size w4 (w5.alloc (.cells #[.int .u8 25] 5)) := hb5.alloc hb5.size _
    have rB := Row.lit w5 5 #[.int .u8 25] 1 (bytes [25]) rfl rfl
    obtain ⟨gB, hgB⟩ : ∃ gB, gB = w5.heap.size := ⟨_, rfl⟩
    have hsB : (w5.alloc (.cells #[.int .u8 25] 5)).heap.size = gB + 1 := by rw [hgB]; simp
    rw [← hgB] at rB
    rw [← hgB]
    have RF := hid (((unhid RF).alloc (Nat.le_refl _) (.cells #[.int .u8 25] 5)).more (show w5.heap.size ≤ (w5.alloc (.cells #[.int .u8 25] 5)).heap.size by simp))
    obtain ⟨w6, hw6⟩ : ∃ W, W = w5.alloc (.cells #[.int .u8 25] 5) := ⟨_, rfl⟩
    rw [← hw6] at rB hb6 hsB RF
    rw [← hw6]
    have RB := hid (rB.more (show gB + 1 ≤ w6.heap.size by omega))
    clear hw6 rB hsB hgB
    refine hK.out _ _ (hb6.mono (Nat.le_of_lt hg4)) (fun _ => ?_)
    refine wpAnyH_ready (rs := [5]) (by kernel_rfl) (by simp) ?_
    refine AllReadyH.cons (o := _) rfl (fun K hK => ?_) AllReadyH.nil
    go_simp
    have P3 := hid (parts3' (W := w6) 49 (unhid RB) ((unhid RD).out w6 hb6) (unhid RF) 1 32 cF)
    have hb7 := hb6.alloc hb6.size (.cells #[.slice (some ⟨gB, 0, none⟩) 1 1, .slice (some ⟨g2, 0, none⟩) 32 32, .slice AF (szN n).length cF] 49)
    refine hK.out _ _ (hb7.mono (Nat.le_of_lt hg4)) (fun _ => ?_)
    refine wpAnyH_ready (rs := [6]) (by kernel_rfl) (by simp) ?_
    refine AllReadyH.cons (o := _) rfl (fun K hK => ?_) AllReadyH.nil
    go_simp
    refine (concat_any _ _ 3 3 (1 + 32 + (szN n).length) _ _ (unhid P3) rfl (by simp [catN, DN.out]; omega) (by simp) (by have := szN_le n; omega) (by decide)).mono ?_
    rintro e w8 ⟨A8, c8, rfl, o8, hq8⟩
    have hb8 := hb7.trans (hq8.mono hb7.size)
    have R8 := hid (Row.of_own o8)
    have hc8 : catN [⟨some ⟨gB, 0, none⟩, 1, 1, [25]⟩, ⟨some ⟨g2, 0, none⟩, 32, 32, name⟩, ⟨AF, (szN n).length, cF, szN n⟩] = lfB name n := by simp [catN, lfB]
    rw [hc8] at R8
    clear o8 P3 hc8
    go_wp2_with fail
    refine hK.out _ _ (hb8.mono (Nat.le_of_lt hg4)) (fun _ => ?_)
    refine wpAnyH_ready (rs := [7]) (by kernel_rfl) (by simp) ?_
    refine AllReadyH.cons (o := _) rfl (fun K hK => ?_) AllReadyH.nil
    go_simp
    refine (sum_any (lfB name n) A8 _ c8 _ _ (unhid R8) (Nat.le_refl _) (by have := szN_le n; omega) (lfB_B8 N8.out hn0) ((unhid HL).below ((unhid E4).trans (hb8.mono (unhid E4).size)) h0) (by have := (unhid E4).size; have := hb8.size; omega)).mono ?_
    rintro e w9 ⟨rfl, hq9⟩
    have hb9 := hb8.trans (hq9.mono hb8.size)
    clear hq9 R8
    go_wp2_with fail
    refine hK.out _ _ (hb9.mono (Nat.le_of_lt hg4)) (fun _ => ?_)
    refine wpAnyH_ready (rs := [8]) (by kernel_rfl) (by simp) ?_
    refine AllReadyH.cons (o := _) rfl (fun K hK => ?_) AllReadyH.nil
    refine build_tot_wp (.tmp 13) (.tmp 20) rfl (d := Sh2.sum (lfB name n)) (Sh2.sum_len _) rfl rfl ?_
    refine hK.out _ _ (hb9.mono (Nat.le_of_lt hg4)) (fun _ => ?_)
    refine wpAnyH_ready (rs := [9]) (by kernel_rfl) (by simp) ?_
    refine AllReadyH.cons (o := _) rfl (fun K hK => ?_) AllReadyH.nil
    refine store_row_wp totT (vs := tc (lfT name n)) (.tmp 4) (.tmp 21) rfl rfl rfl (tc_len (Sh2.sum_len _)) (tc_one _) ((unhid B4).below hb9 hg4) (by simp [tc, zeroT, bytes, up]) ?_
    intro wA bA gA
    have BA := hid bA
    have hbA : Below g4 w4 wA := (hb9.mono (Nat.le_of_lt hg4)).grown gA (by have := hb9.size; omega) (fun q hq => by injection hq with hq; omega)
    have EA := hid (((unhid E4).trans (hb9.mono (unhid E4).size)).grown gA (by have := hb9.size; have := (unhid E4).size; omega) (fun q hq => by injection hq with hq; omega))
    clear bA gA
    refine hK.out _ _ hbA (fun _ => ?_)
    refine wpAnyH_ready (rs := [10]) (by kernel_rfl) (by simp) ?_
    refine AllReadyH.cons (o := _) rfl (fun K hK => ?_) AllReadyH.nil
    go_simp
    refine hK.out _ _ hbA (fun _ => ?_)
    refine wpAnyH_done (by kernel_rfl) ?_ _
    go_wp2_with fail
    exact bodyPost_ret (results_row_tmp rfl _ _ g4 _ (tc (lfT name n)).toArray (0, 0) _ rfl (unhid BA) Tryd.underlying38 rfl (by rw [List.size_toArray, tc_len (Sh2.sum_len _)]; exact totT.size)) rfl ⟨rfl, unhid EA⟩

end Go.Proofs.YtjdffhlbiiefaaaDoor

