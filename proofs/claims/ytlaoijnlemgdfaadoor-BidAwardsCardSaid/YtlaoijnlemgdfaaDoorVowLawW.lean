/- The walks of the reference's VowText and of the laws VowTells and VowBinds. -/
import Derived.Test.YtlaoijnlemgdfaaDoorVowW
import Derived.Test.YtlaoijnlemgdfaaDoorRefSumW
import Derived.Test.YtlaoijnlemgdfaaDoorNats
import Derived.Test.YtlaoijnlemgdfaaDoorBytesW
namespace Go.Proofs.YtlaoijnlemgdfaaDoor
set_option linter.unusedVariables false
open Go.RowKit Go.Mny
set_option maxHeartbeats 1000000 in
set_option maxRecDepth 100000 in
theorem vowText_any (salt b : List Nat) (A : Option Addr) (n c D : Nat) (w : World) (hs : salt.length = 32) (hr : Row w D 1 A n (bytes b)) (hD : D ≤ w.heap.size) (hn : n ≤ 140737488354000) :
    Calls Tryd.prog 12 #[.agg (cellsOf .u8 (up salt)), .slice A n c] w (ConcP w (vowText salt b) (33 + n)) := by
  have HR := hid hr; have HS := hid hs
  clear hr hs
  go_enter Tryd.func12, Tryd.ntmps12
  go_wp2_with (with_reducible refine halt_op (some 2) (.box _ _) (fun K hK => ?_))
  refine go_on hK ?_; clear hK
  refine box_arr (k := .u8) (l := up salt) rfl (.tmp 0) rfl rfl ?_
  rintro g2 w1 hg2 s1 b1 e1
  have E1 := hid (e1.mono (show w.heap.size ≤ g2 by omega))
  have R1 := hid ((unhid HR).below ((unhid E1).mono hD))
  have X1 : Hid (Row (w1.alloc (.cells #[.int .u8 15] 5)) (w1.heap.size + 1) 1 (some ⟨g2, 0, none⟩) 32 (bytes salt)) := by
    have h1 := Row.of_blk b1
    rw [up_len, HS.out] at h1
    exact (h1.alloc (Nat.le_refl _) _).more (by omega)
  have hz : w.heap.size ≤ w1.heap.size := by omega
  clear b1 e1 hg2 s1
  go_wp2_with (at_builtin; refine halt_at (fun K hK => ?_))
  refine go_on hK ?_; clear hK
  refine app_step bytesE rfl (.tmp 6) (.tmp 7) rfl rfl (Own.lit_at w1 w1.heap.size 5 1 1 w1.heap.size _ (bytes [15]) rfl (Nat.le_refl _) (by decide) rfl rfl) rfl (unhid X1) (bytes_one _) (by decide) (by decide) (by simp) ?_
  intro A2 c2 w2 o2 g2' l2
  rw [← bytes_append] at o2
  have E2' : Below w1.heap.size w1 w2 := ((Below.refl _ _).alloc (Nat.le_refl _) _).grown g2' (by simp) (fun q hq => by simp [at_] at hq; omega)
  have E2 := hid ((unhid E1).trans (E2'.mono hz))
  have R2 := hid ((unhid R1).below (E2'.mono (by omega)))
  have O2 := hid o2
  have hz2 := E2'.size
  clear o2 g2' l2 E2' R1 X1 E1
  go_wp2_with (at_builtin; refine halt_at (fun K hK => ?_))
  refine go_on hK ?_; clear hK
  refine app_step bytesE rfl (.tmp 9) (.tmp 10) rfl rfl (unhid O2) rfl (unhid R2) (bytes_one _) (by simp [maxLen]; omega) (by omega) (by omega) ?_
  intro A3 c3 w3 o3 g3 l3
  rw [← bytes_append] at o3
  have E3 := hid ((unhid E2).grown g3 (by omega) (fun q hq => by have := (unhid O2).from_ q hq; omega))
  have O3 := hid (o3.less hz)
  clear o3 g3 l3
  go_wp2_with fail
  go_ret
  exact ⟨A3, c3, rfl, unhid O3, unhid E3⟩
set_option maxHeartbeats 4000000 in
set_option maxRecDepth 100000 in
theorem vowTells_walk (l0 : List Int) (A1 : Option Addr) (n1 c1 : Nat) (l1 : List Int) (l2 : List Int) (w : World) (q0 : l0.length = 32) (f0 : ∀ z ∈ l0, (Lit.int .u8 z).wf = true) (b1 : n1 ≤ c1) (g1 : c1 ≤ maxLen) (r1 : Row w w.heap.size 1 A1 n1 (l1.map (Value.int .u8))) (f1 : ∀ z ∈ l1, (Lit.int .u8 z).wf = true) (q2 : l2.length = 32) (f2 : ∀ z ∈ l2, (Lit.int .u8 z).wf = true) (rb1 : n1 * 1 ≤ 140737488351232) (hL : Laid w) (h0 : 1 < w.heap.size) :
    Calls Tryd.prog 3 #[.agg (l0.map (Value.int .u8)).toArray, .slice A1 n1 c1, .agg (l2.map (Value.int .u8)).toArray] w fun e w' => e = .returned (.bool true) ∧ Below w.heap.size w w' := by
  obtain ⟨salt, rfl, s8⟩ := nats_of f0
  obtain ⟨b, rfl, b8⟩ := nats_of f1
  obtain ⟨v, rfl, v8⟩ := nats_of f2
  rw [up_len] at q0 q2
  have HL := hid hL; have S8 := hid s8; have B8' := hid b8; have HS := hid q0; have HV := hid q2
  have HR := hid (show Row w w.heap.size 1 A1 n1 (bytes b) from r1)
  have hn : n1 ≤ 140737488351232 := by omega
  clear f0 f1 f2 hL s8 b8 v8 q0 q2 r1 rb1 b1 g1
  change Calls _ _ #[.agg (cellsOf .u8 (up salt)), _, .agg (cellsOf .u8 (up v))] _ _
  go_enter Tryd.func3, Tryd.ntmps3
  go_wp2_with (with_reducible refine halt_op (some 3) (.box _ _) (fun K hK => ?_))
  refine go_on hK ?_; clear hK
  refine box_arr (k := .u8) (l := up salt) rfl (.tmp 0) rfl rfl ?_
  rintro g3 w1 hg3 s1 b1 e1
  go_wp2_with (with_reducible refine halt_op (some 5) (.box _ _) (fun K hK => ?_))
  refine go_on hK ?_; clear hK
  refine box_arr (k := .u8) (l := up v) rfl (.tmp 2) rfl rfl ?_
  rintro g5 w2 hg5 s2 b2 e2
  have h35 : g3 < g5 := by omega
  have hw3 : w.heap.size ≤ g3 := by omega
  have P3 := hid (b1.below e2 h35); have P5 := hid b2
  have E2 := hid ((e1.trans (e2.mono (by omega))).mono hw3)
  have hz2 : g5 < w2.heap.size := by omega
  clear b1 b2 e1 e2 hg3 hg5 s1 s2
  go_wp2_with (with_reducible refine halt_op (some 8) (.load _ _) (fun K hK => ?_))
  refine go_on hK ?_; clear hK
  refine load_arr digT rfl (.tmp 3) rfl rfl (unhid P3) (by rw [up_len]; exact HS.out) ?_
  go_wp2_with fail
  refine (vowText_any salt b A1 n1 c1 w.heap.size _ HS.out ((unhid HR).below (unhid E2)) (by omega) (by omega)).mono ?_
  rintro e w3 ⟨A3, c3, rfl, o3, e3⟩
  have O3 := hid o3
  have P33 := hid ((unhid P3).below e3 (by omega)); have P53 := hid ((unhid P5).below e3 hz2)
  have E3 := hid ((unhid E2).trans (e3.mono (by omega)))
  have hz3 : g5 < w3.heap.size := by have := e3.size; omega
  clear o3 e3 P3 P5 E2 hz2
  go_wp2_with fail
  refine (rsum_any (vowText salt b) A3 (33 + n1) c3 _ _ (Row.of_own (unhid O3)) (Nat.le_refl _) (by omega) (vowText_B8 S8.out B8'.out)).mono ?_
  rintro e w4 ⟨rfl, hb4⟩
  have P34 := hid ((unhid P33).below hb4 (by omega)); have P54 := hid ((unhid P53).below hb4 hz3)
  have E4 := hid ((unhid E3).trans (hb4.mono (by omega)))
  have hz4 : g5 < w4.heap.size := by have := hb4.size; omega
  clear hb4 P33 P53 E3 O3 hz3
  go_wp2_with (with_reducible refine halt_op (some 7) (.alloc _) (fun K hK => ?_))
  refine go_on hK ?_; clear hK
  refine alloc_arr digT rfl rfl ?_
  rintro g7 w5 hg7 s5 b5 e5
  refine store_arr digT (l := up (Sh2.sum (vowText salt b))) rfl (.tmp 7) (.tmp 11) rfl rfl rfl (sum_len_u _) b5 (by simp [cellsOf]) ?_
  intro w6 b6 g6
  have e6 : Below g7 w4 w6 := Below.grown e5 g6 (by omega) (fun q hq => by injection hq with hq; omega)
  have P36 := hid ((unhid P34).below e6 (by omega)); have P56 := hid ((unhid P54).below e6 (by omega)); have P76 := hid b6
  have E6 := hid ((unhid E4).trans (e6.mono (by have := (unhid E4).size; omega)))
  have VL := hid (show (up v).length = 32 by rw [up_len]; exact HV.out)
  have SL := hid (show (up salt).length = 32 by rw [up_len]; exact HS.out)
  have XL := hid (show (up (vowN salt b)).length = 32 from sum_len_u _)
  have XN := hid (show (vowN salt b).length = 32 from Sh2.sum_len _)
  have LS : Hid (∀ w', Below w6.heap.size w6 w' → w'.rangeAt g3 0 ((up salt).map (Value.int .u8))) := fun w' hb => ((unhid P36).below hb (unhid P36).lt').range
  have LV : Hid (∀ w', Below w6.heap.size w6 w' → w'.rangeAt g5 0 ((up v).map (Value.int .u8))) := fun w' hb => ((unhid P56).below hb (unhid P56).lt').range
  have LX : Hid (∀ w', Below w6.heap.size w6 w' → w'.rangeAt g7 0 ((up (vowN salt b)).map (Value.int .u8))) := fun w' hb => ((unhid P76).below hb (unhid P76).lt').range
  obtain ⟨q, hq⟩ : ∃ q, decide (up v = up (vowN salt b)) = q := ⟨_, rfl⟩
  have OPN : ∀ (x : List Nat), x.length = 32 → ∀ w', Below w6.heap.size w6 w' → Calls Tryd.prog 14 #[.agg (cellsOf .u8 (up x)), .agg (cellsOf .u8 (up salt)), .slice A1 n1 c1] w' fun e w'' => e = .returned (.bool (decide (up x = up (vowN salt b)))) ∧ Below w6.heap.size w6 w'' := fun x hx w' hb => by
    have hz := (unhid E6).size
    have hz' := hb.size
    have e := (unhid E6).trans (hb.mono hz)
    exact (open_any' x salt b A1 n1 c1 w.heap.size w' hx HS.out S8.out ((unhid HR).below e) (by omega) (by omega) B8'.out ((unhid HL).below e h0) (by omega)).mono fun e w'' ⟨h1, h2⟩ => ⟨h1, hb.trans (h2.mono hz')⟩
  have C1 : Hid (∀ w', Below w6.heap.size w6 w' → Calls Tryd.prog 13 #[.agg (cellsOf .u8 (up salt)), .slice A1 n1 c1] w' fun e w'' => e = .returned (.agg (cellsOf .u8 (up (vowN salt b)))) ∧ Below w6.heap.size w6 w'') := fun w' hb => by
    have hz := (unhid E6).size
    have hz' := hb.size
    have e := (unhid E6).trans (hb.mono hz)
    exact (seal_any salt b A1 n1 c1 w.heap.size w' HS.out S8.out ((unhid HR).below e) (by omega) (by omega) B8'.out ((unhid HL).below e h0) (by omega)).mono fun e w'' ⟨h1, h2⟩ => ⟨h1, hb.trans (h2.mono hz')⟩
  have C2 := hid (OPN v HV.out)
  have C3 := hid (OPN (vowN salt b) XN.out)
  rw [hq] at C2
  rw [show decide (up (vowN salt b) = up (vowN salt b)) = true by simp] at C3
  have HQ := hid hq
  clear OPN hq b5 e5 b6 g6 e6 hg7 s5 P34 P54 E4 hz4 P36 P56 P76
  go_wp2_with fail
  refine wp_region_held_drew (S := fun w' => Below w6.heap.size w6 w') (by kernel_rfl) (Below.refl _ _).drew (fun hS => ?_)
  refine wpAnyH_take (i := 0) (oi := { dst := some 12, op := Op.load 23 (Operand.tmp 3), type := 23, pos := "shares.go:248", after := #[], guard := none }) (v := (.agg (cellsOf .u8 (up salt)))) rfl (by kernel_rfl) (by kernel_rfl) (by kernel_rfl) (fun _ _ _ h => h) (yields_load digT rfl (.tmp 3) rfl rfl SL.out (fun w h => LS.out w h)) hS ?_
  try simp only [Act.put, List.setIfInBounds_toArray, List.set_cons_zero, List.set_cons_succ]
  refine wpAnyH_take (i := 1) (oi := { dst := some 13, op := Op.move (Operand.tmp 1), type := 24, pos := "shares.go:248", after := #[], guard := none }) (v := (.slice A1 n1 c1)) rfl (by kernel_rfl) (by kernel_rfl) (by kernel_rfl) (fun _ _ _ h => h) (yields_of rfl (fun w => by go_simp)) hS ?_
  try simp only [Act.put, List.setIfInBounds_toArray, List.set_cons_zero, List.set_cons_succ]
  refine wpAnyH_take (i := 3) (oi := { dst := some 15, op := Op.load 23 (Operand.tmp 7), type := 23, pos := "shares.go:248", after := #[], guard := none }) (v := (.agg (cellsOf .u8 (up (vowN salt b))))) rfl (by kernel_rfl) (by kernel_rfl) (by kernel_rfl) (fun _ _ _ h => h) (yields_load digT rfl (.tmp 7) rfl rfl XL.out (fun w h => LX.out w h)) hS ?_
  try simp only [Act.put, List.setIfInBounds_toArray, List.set_cons_zero, List.set_cons_succ]
  refine wpAnyH_ready (rs := [2]) (by kernel_rfl) (by simp) ?_
  refine AllReadyH.cons (o := { dst := some 14, op := Op.call { callee := Callee.value (Operand.func 13), args := #[Operand.tmp 12, Operand.tmp 13], argTypes := #[23, 24] }, type := 23, pos := "shares.go:248", after := #[{ on := 0, ground := Ground.data }, { on := 1, ground := Ground.data }], guard := none }) rfl (fun K hK => ?_) AllReadyH.nil
  go_simp
  refine (unhid C1 _ hS).mono ?_
  rintro e wq1 ⟨rfl, hb1⟩
  go_wp2_with fail
  refine hK.out _ _ hb1 (fun hS1 => ?_)
  try simp only [Act.put, List.setIfInBounds_toArray, List.set_cons_zero, List.set_cons_succ]
  refine wpAnyH_take (i := 4) (oi := { dst := some 16, op := Op.binOp BinOp.eql 23 (Operand.tmp 14) (Operand.tmp 15) 23, type := 4, pos := "shares.go:248", after := #[{ on := 2, ground := Ground.data }, { on := 3, ground := Ground.data }], guard := none }) (v := (.bool true)) rfl (by kernel_rfl) (by kernel_rfl) (by kernel_rfl) (fun _ _ _ h => h) (yields_eql digT noGuardD rfl (.tmp 14) (.tmp 15) 23 rfl rfl rfl XL.out XL.out (by simp)) hS1 ?_
  try simp only [Act.put, List.setIfInBounds_toArray, List.set_cons_zero, List.set_cons_succ]
  refine wpAnyH_take (i := 5) (oi := { dst := some 17, op := Op.move (Operand.tmp 16), type := 4, pos := "shares.go:248", after := #[{ on := 4, ground := Ground.data }, { on := 2, ground := Ground.chain }], guard := none }) (v := (.bool true)) rfl (by kernel_rfl) (by kernel_rfl) (by kernel_rfl) (fun _ _ _ h => h) (yields_of rfl (fun w => by go_simp)) hS1 ?_
  try simp only [Act.put, List.setIfInBounds_toArray, List.set_cons_zero, List.set_cons_succ]
  refine wpAnyH_take (i := 6) (oi := { dst := some 18, op := Op.load 23 (Operand.tmp 5), type := 23, pos := "shares.go:248", after := #[{ on := 5, ground := Ground.guard }], guard := some (5, true) }) (v := (.agg (cellsOf .u8 (up v)))) rfl (by kernel_rfl) (by kernel_rfl) (by kernel_rfl) (fun _ _ _ h => h) (yields_load digT rfl (.tmp 5) rfl rfl VL.out (fun w h => LV.out w h)) hS1 ?_
  try simp only [Act.put, List.setIfInBounds_toArray, List.set_cons_zero, List.set_cons_succ]
  refine wpAnyH_take (i := 7) (oi := { dst := some 19, op := Op.load 23 (Operand.tmp 3), type := 23, pos := "shares.go:248", after := #[{ on := 5, ground := Ground.guard }], guard := some (5, true) }) (v := (.agg (cellsOf .u8 (up salt)))) rfl (by kernel_rfl) (by kernel_rfl) (by kernel_rfl) (fun _ _ _ h => h) (yields_load digT rfl (.tmp 3) rfl rfl SL.out (fun w h => LS.out w h)) hS1 ?_
  try simp only [Act.put, List.setIfInBounds_toArray, List.set_cons_zero, List.set_cons_succ]
  refine wpAnyH_take (i := 8) (oi := { dst := some 20, op := Op.move (Operand.tmp 1), type := 24, pos := "shares.go:248", after := #[{ on := 5, ground := Ground.guard }], guard := some (5, true) }) (v := (.slice A1 n1 c1)) rfl (by kernel_rfl) (by kernel_rfl) (by kernel_rfl) (fun _ _ _ h => h) (yields_of rfl (fun w => by go_simp)) hS1 ?_
  try simp only [Act.put, List.setIfInBounds_toArray, List.set_cons_zero, List.set_cons_succ]
  refine wpAnyH_take (i := 10) (oi := { dst := some 22, op := Op.load 23 (Operand.tmp 5), type := 23, pos := "shares.go:248", after := #[{ on := 5, ground := Ground.guard }], guard := some (5, true) }) (v := (.agg (cellsOf .u8 (up v)))) rfl (by kernel_rfl) (by kernel_rfl) (by kernel_rfl) (fun _ _ _ h => h) (yields_load digT rfl (.tmp 5) rfl rfl VL.out (fun w h => LV.out w h)) hS1 ?_
  try simp only [Act.put, List.setIfInBounds_toArray, List.set_cons_zero, List.set_cons_succ]
  refine wpAnyH_take (i := 11) (oi := { dst := some 23, op := Op.load 23 (Operand.tmp 7), type := 23, pos := "shares.go:248", after := #[{ on := 5, ground := Ground.guard }], guard := some (5, true) }) (v := (.agg (cellsOf .u8 (up (vowN salt b))))) rfl (by kernel_rfl) (by kernel_rfl) (by kernel_rfl) (fun _ _ _ h => h) (yields_load digT rfl (.tmp 7) rfl rfl XL.out (fun w h => LX.out w h)) hS1 ?_
  try simp only [Act.put, List.setIfInBounds_toArray, List.set_cons_zero, List.set_cons_succ]
  refine wpAnyH_take (i := 12) (oi := { dst := some 24, op := Op.binOp BinOp.eql 23 (Operand.tmp 22) (Operand.tmp 23) 23, type := 4, pos := "shares.go:248", after := #[{ on := 10, ground := Ground.data }, { on := 11, ground := Ground.data }, { on := 5, ground := Ground.guard }], guard := some (5, true) }) (v := (.bool q)) rfl (by kernel_rfl) (by kernel_rfl) (by kernel_rfl) (fun _ _ _ h => h) (yields_eql digT noGuardD rfl (.tmp 22) (.tmp 23) 23 rfl rfl rfl VL.out XL.out HQ.out.symm) hS1 ?_
  try simp only [Act.put, List.setIfInBounds_toArray, List.set_cons_zero, List.set_cons_succ]
  refine wpAnyH_ready (rs := [9]) (by kernel_rfl) (by simp) ?_
  refine AllReadyH.cons (o := { dst := some 21, op := Op.call { callee := Callee.value (Operand.func 14), args := #[Operand.tmp 18, Operand.tmp 19, Operand.tmp 20], argTypes := #[23, 23, 24] }, type := 4, pos := "shares.go:248", after := #[{ on := 6, ground := Ground.data }, { on := 7, ground := Ground.data }, { on := 8, ground := Ground.data }, { on := 5, ground := Ground.chain }, { on := 5, ground := Ground.guard }], guard := some (5, true) }) rfl (fun K hK => ?_) AllReadyH.nil
  go_simp
  refine (unhid C2 _ hS1).mono ?_
  rintro e wq2 ⟨rfl, hb2⟩
  go_wp2_with fail
  refine hK.out _ _ hb2 (fun hS2 => ?_)
  try simp only [Act.put, List.setIfInBounds_toArray, List.set_cons_zero, List.set_cons_succ]
  refine wpAnyH_take (i := 13) (oi := { dst := some 25, op := Op.binOp BinOp.eql 4 (Operand.tmp 21) (Operand.tmp 24) 4, type := 4, pos := "shares.go:248", after := #[{ on := 9, ground := Ground.data }, { on := 12, ground := Ground.data }, { on := 5, ground := Ground.guard }], guard := some (5, true) }) (v := (.bool true)) rfl (by kernel_rfl) (by kernel_rfl) (by kernel_rfl) (fun _ _ _ h => h) (yields_of rfl (fun w => by cases q <;> go_simp)) hS2 ?_
  try simp only [Act.put, List.setIfInBounds_toArray, List.set_cons_zero, List.set_cons_succ]
  refine wpAnyH_take (i := 14) (oi := { dst := some 26, op := Op.pick (Operand.tmp 17) (Operand.tmp 25) (Operand.const (Value.bool false)), type := 4, pos := "shares.go:248", after := #[{ on := 5, ground := Ground.data }, { on := 13, ground := Ground.data }], guard := none }) (v := (.bool true)) rfl (by kernel_rfl) (by kernel_rfl) (by kernel_rfl) (fun _ _ _ h => h) (yields_of rfl (fun w => by go_simp)) hS2 ?_
  try simp only [Act.put, List.setIfInBounds_toArray, List.set_cons_zero, List.set_cons_succ]
  refine wpAnyH_take (i := 15) (oi := { dst := some 27, op := Op.move (Operand.tmp 26), type := 4, pos := "shares.go:248", after := #[{ on := 14, ground := Ground.data }, { on := 9, ground := Ground.chain }], guard := none }) (v := (.bool true)) rfl (by kernel_rfl) (by kernel_rfl) (by kernel_rfl) (fun _ _ _ h => h) (yields_of rfl (fun w => by go_simp)) hS2 ?_
  try simp only [Act.put, List.setIfInBounds_toArray, List.set_cons_zero, List.set_cons_succ]
  refine wpAnyH_take (i := 16) (oi := { dst := some 28, op := Op.load 23 (Operand.tmp 7), type := 23, pos := "shares.go:248", after := #[{ on := 15, ground := Ground.guard }], guard := some (15, true) }) (v := (.agg (cellsOf .u8 (up (vowN salt b))))) rfl (by kernel_rfl) (by kernel_rfl) (by kernel_rfl) (fun _ _ _ h => h) (yields_load digT rfl (.tmp 7) rfl rfl XL.out (fun w h => LX.out w h)) hS2 ?_
  try simp only [Act.put, List.setIfInBounds_toArray, List.set_cons_zero, List.set_cons_succ]
  refine wpAnyH_take (i := 17) (oi := { dst := some 29, op := Op.load 23 (Operand.tmp 3), type := 23, pos := "shares.go:248", after := #[{ on := 15, ground := Ground.guard }], guard := some (15, true) }) (v := (.agg (cellsOf .u8 (up salt)))) rfl (by kernel_rfl) (by kernel_rfl) (by kernel_rfl) (fun _ _ _ h => h) (yields_load digT rfl (.tmp 3) rfl rfl SL.out (fun w h => LS.out w h)) hS2 ?_
  try simp only [Act.put, List.setIfInBounds_toArray, List.set_cons_zero, List.set_cons_succ]
  refine wpAnyH_take (i := 18) (oi := { dst := some 30, op := Op.move (Operand.tmp 1), type := 24, pos := "shares.go:248", after := #[{ on := 15, ground := Ground.guard }], guard := some (15, true) }) (v := (.slice A1 n1 c1)) rfl (by kernel_rfl) (by kernel_rfl) (by kernel_rfl) (fun _ _ _ h => h) (yields_of rfl (fun w => by go_simp)) hS2 ?_
  try simp only [Act.put, List.setIfInBounds_toArray, List.set_cons_zero, List.set_cons_succ]
  refine wpAnyH_ready (rs := [19]) (by kernel_rfl) (by simp) ?_
  refine AllReadyH.cons (o := { dst := some 31, op := Op.call { callee := Callee.value (Operand.func 14), args := #[Operand.tmp 28, Operand.tmp 29, Operand.tmp 30], argTypes := #[23, 23, 24] }, type := 4, pos := "shares.go:248", after := #[{ on := 16, ground := Ground.data }, { on := 17, ground := Ground.data }, { on := 18, ground := Ground.data }, { on := 15, ground := Ground.chain }, { on := 15, ground := Ground.guard }], guard := some (15, true) }) rfl (fun K hK => ?_) AllReadyH.nil
  go_simp
  refine (unhid C3 _ hS2).mono ?_
  rintro e wq3 ⟨rfl, hb3⟩
  go_wp2_with fail
  refine hK.out _ _ hb3 (fun hS3 => ?_)
  try simp only [Act.put, List.setIfInBounds_toArray, List.set_cons_zero, List.set_cons_succ]
  refine wpAnyH_take (i := 20) (oi := { dst := some 32, op := Op.pick (Operand.tmp 27) (Operand.tmp 31) (Operand.const (Value.bool false)), type := 4, pos := "shares.go:248", after := #[{ on := 15, ground := Ground.data }, { on := 19, ground := Ground.data }], guard := none }) (v := (.bool true)) rfl (by kernel_rfl) (by kernel_rfl) (by kernel_rfl) (fun _ _ _ h => h) (yields_of rfl (fun w => by go_simp)) hS3 ?_
  try simp only [Act.put, List.setIfInBounds_toArray, List.set_cons_zero, List.set_cons_succ]
  refine wpAnyH_ready (rs := [21]) (by kernel_rfl) (by simp) ?_
  refine AllReadyH.cons (o := { dst := some 6, op := Op.assign (Operand.tmp 32), type := 4, pos := "shares.go:248", after := #[{ on := 20, ground := Ground.data }, { on := 19, ground := Ground.chain }, { on := 0, ground := Ground.phase }, { on := 1, ground := Ground.phase }, { on := 2, ground := Ground.phase }, { on := 3, ground := Ground.phase }, { on := 4, ground := Ground.phase }, { on := 5, ground := Ground.phase }, { on := 6, ground := Ground.phase }, { on := 7, ground := Ground.phase }, { on := 8, ground := Ground.phase }, { on := 9, ground := Ground.phase }, { on := 10, ground := Ground.phase }, { on := 11, ground := Ground.phase }, { on := 12, ground := Ground.phase }, { on := 13, ground := Ground.phase }, { on := 14, ground := Ground.phase }, { on := 15, ground := Ground.phase }, { on := 16, ground := Ground.phase }, { on := 17, ground := Ground.phase }, { on := 18, ground := Ground.phase }, { on := 19, ground := Ground.phase }, { on := 20, ground := Ground.phase }], guard := none }) rfl (fun K hK => ?_) AllReadyH.nil
  go_simp
  refine hK.out _ _ hS3 (fun hS4 => ?_)
  refine wpAnyH_done (by kernel_rfl) ?_ _
  go_wp2_with fail
  go_ret
  exact ⟨rfl, (unhid E6).trans (hb3.mono (unhid E6).size)⟩
theorem vowText_inj {s b t c : List Nat} (hs : s.length = 32) (ht : t.length = 32) (h : vowText s b = vowText t c) : s = t ∧ b = c := by
  have h2 : s ++ b = t ++ c := (List.cons.inj h).2
  exact List.append_inj h2 (by rw [hs, ht])
set_option maxHeartbeats 4000000 in
set_option maxRecDepth 100000 in
theorem vowBinds_walk (l0 : List Int) (l1 : List Int) (A2 : Option Addr) (n2 c2 : Nat) (l2 : List Int) (l3 : List Int) (A4 : Option Addr) (n4 c4 : Nat) (l4 : List Int) (w : World) (q0 : l0.length = 32) (f0 : ∀ z ∈ l0, (Lit.int .u8 z).wf = true) (q1 : l1.length = 32) (f1 : ∀ z ∈ l1, (Lit.int .u8 z).wf = true) (b2 : n2 ≤ c2) (g2 : c2 ≤ maxLen) (r2 : Row w w.heap.size 1 A2 n2 (l2.map (Value.int .u8))) (f2 : ∀ z ∈ l2, (Lit.int .u8 z).wf = true) (q3 : l3.length = 32) (f3 : ∀ z ∈ l3, (Lit.int .u8 z).wf = true) (b4 : n4 ≤ c4) (g4 : c4 ≤ maxLen) (r4 : Row w w.heap.size 1 A4 n4 (l4.map (Value.int .u8))) (f4 : ∀ z ∈ l4, (Lit.int .u8 z).wf = true) (rb2 : n2 * 1 ≤ 140737488351232) (rb4 : n4 * 1 ≤ 140737488351232) (hL : Laid w) (h0 : 1 < w.heap.size) :
    Calls Tryd.prog 4 #[.agg (l0.map (Value.int .u8)).toArray, .agg (l1.map (Value.int .u8)).toArray, .slice A2 n2 c2, .agg (l3.map (Value.int .u8)).toArray, .slice A4 n4 c4] w fun e w' => e = .returned (.bool true) ∧ Below w.heap.size w w' := by
  obtain ⟨v, rfl, v8⟩ := nats_of f0
  obtain ⟨salt, rfl, s8⟩ := nats_of f1
  obtain ⟨b, rfl, b8⟩ := nats_of f2
  obtain ⟨other, rfl, o8⟩ := nats_of f3
  obtain ⟨c, rfl, c8⟩ := nats_of f4
  rw [up_len] at q0 q1 q3
  have HL := hid hL; have S8 := hid s8; have O8 := hid o8; have BB8 := hid b8; have CC8 := hid c8; have HS := hid q1; have HV := hid q0; have HO := hid q3
  have HR2 := hid (show Row w w.heap.size 1 A2 n2 (bytes b) from r2)
  have HR4 := hid (show Row w w.heap.size 1 A4 n4 (bytes c) from r4)
  have hn2 : n2 ≤ 140737488351232 := by omega
  have hn4 : n4 ≤ 140737488351232 := by omega
  clear f0 f1 f2 f3 f4 hL s8 b8 v8 o8 c8 q0 q1 q3 r2 r4 rb2 rb4 b2 g2 b4 g4
  change Calls _ _ #[.agg (cellsOf .u8 (up v)), .agg (cellsOf .u8 (up salt)), _, .agg (cellsOf .u8 (up other)), _] _ _
  go_enter Tryd.func4, Tryd.ntmps4
  go_wp2_with (with_reducible refine halt_op (some 5) (.box _ _) (fun K hK => ?_))
  refine go_on hK ?_; clear hK
  refine box_arr (k := .u8) (l := up v) rfl (.tmp 0) rfl rfl ?_
  rintro g5 w1 hg5 s1 b1 e1
  go_wp2_with (with_reducible refine halt_op (some 6) (.box _ _) (fun K hK => ?_))
  refine go_on hK ?_; clear hK
  refine box_arr (k := .u8) (l := up salt) rfl (.tmp 1) rfl rfl ?_
  rintro g6 w2 hg6 s2 b2 e2
  go_wp2_with (with_reducible refine halt_op (some 8) (.box _ _) (fun K hK => ?_))
  refine go_on hK ?_; clear hK
  refine box_arr (k := .u8) (l := up other) rfl (.tmp 3) rfl rfl ?_
  rintro g8 w3 hg8 s3 b3 e3
  have h56 : g5 < g6 := by omega
  have h68 : g6 < g8 := by omega
  have hw5 : w.heap.size ≤ g5 := by omega
  have P5 := hid ((b1.below e2 h56).below e3 (by omega)); have P6 := hid (b2.below e3 h68); have P8 := hid b3
  have E3 := hid (((e1.trans (e2.mono (by omega))).trans (e3.mono (by omega))).mono hw5)
  have hz3 : g8 < w3.heap.size := by omega
  clear b1 b2 b3 e1 e2 e3 hg5 hg6 hg8 s1 s2 s3
  have VL := hid (show (up v).length = 32 by rw [up_len]; exact HV.out)
  have SL := hid (show (up salt).length = 32 by rw [up_len]; exact HS.out)
  have OL := hid (show (up other).length = 32 by rw [up_len]; exact HO.out)
  have XL := hid (show (up (vowN salt b)).length = 32 from sum_len_u _)
  have YL := hid (show (up (vowN other c)).length = 32 from sum_len_u _)
  have XN := hid (show (vowN salt b).length = 32 from Sh2.sum_len _)
  have LS : Hid (∀ w', Below w3.heap.size w3 w' → w'.rangeAt g6 0 ((up salt).map (Value.int .u8))) := fun w' hb => ((unhid P6).below hb (unhid P6).lt').range
  have OPN : ∀ (x s t : List Nat) (A : Option Addr) (n k : Nat), x.length = 32 → s.length = 32 → B8 s → Row w w.heap.size 1 A n (bytes t) → n ≤ 140737488351232 → B8 t → ∀ w', Below w3.heap.size w3 w' → Calls Tryd.prog 14 #[.agg (cellsOf .u8 (up x)), .agg (cellsOf .u8 (up s)), .slice A n k] w' fun e w'' => e = .returned (.bool (decide (up x = up (vowN s t)))) ∧ Below w3.heap.size w3 w'' := fun x s t A n k hx hs s8 hr hn t8 w' hb => by
    have hz := (unhid E3).size
    have hz' := hb.size
    have e := (unhid E3).trans (hb.mono hz)
    exact (open_any' x s t A n k w.heap.size w' hx hs s8 (hr.below e) (by omega) (by omega) t8 ((unhid HL).below e h0) (by omega)).mono fun e w'' ⟨h1, h2⟩ => ⟨h1, hb.trans (h2.mono hz')⟩
  have C1 : Hid (∀ w', Below w3.heap.size w3 w' → Calls Tryd.prog 13 #[.agg (cellsOf .u8 (up salt)), .slice A2 n2 c2] w' fun e w'' => e = .returned (.agg (cellsOf .u8 (up (vowN salt b)))) ∧ Below w3.heap.size w3 w'') := fun w' hb => by
    have hz := (unhid E3).size
    have hz' := hb.size
    have e := (unhid E3).trans (hb.mono hz)
    exact (seal_any salt b A2 n2 c2 w.heap.size w' HS.out S8.out ((unhid HR2).below e) (by omega) (by omega) BB8.out ((unhid HL).below e h0) (by omega)).mono fun e w'' ⟨h1, h2⟩ => ⟨h1, hb.trans (h2.mono hz')⟩
  have C3 := hid (OPN (vowN salt b) salt b A2 n2 c2 XN.out HS.out S8.out (unhid HR2) hn2 BB8.out)
  rw [show decide (up (vowN salt b) = up (vowN salt b)) = true by simp] at C3
  have CV := hid (OPN v salt b A2 n2 c2 HV.out HS.out S8.out (unhid HR2) hn2 BB8.out)
  have CO := hid (OPN v other c A4 n4 c4 HV.out HO.out O8.out (unhid HR4) hn4 CC8.out)
  clear OPN
  go_wp2_with fail
  refine wp_region_held_drew (S := fun w' => Below w3.heap.size w3 w') (by kernel_rfl) (Below.refl _ _).drew (fun hS => ?_)
  refine wpAnyH_take (i := 0) (oi := { dst := some 15, op := Op.load 23 (Operand.tmp 6), type := 23, pos := "shares.go:253", after := #[], guard := none }) (v := (.agg (cellsOf .u8 (up salt)))) rfl (by kernel_rfl) (by kernel_rfl) (by kernel_rfl) (fun _ _ _ h => h) (yields_load digT rfl (.tmp 6) rfl rfl SL.out (fun w h => LS.out w h)) hS ?_
  try simp only [Act.put, List.setIfInBounds_toArray, List.set_cons_zero, List.set_cons_succ]
  refine wpAnyH_take (i := 1) (oi := { dst := some 16, op := Op.move (Operand.tmp 2), type := 24, pos := "shares.go:253", after := #[], guard := none }) (v := (.slice A2 n2 c2)) rfl (by kernel_rfl) (by kernel_rfl) (by kernel_rfl) (fun _ _ _ h => h) (yields_of rfl (fun w => by go_simp)) hS ?_
  try simp only [Act.put, List.setIfInBounds_toArray, List.set_cons_zero, List.set_cons_succ]
  refine wpAnyH_take (i := 3) (oi := { dst := some 18, op := Op.load 23 (Operand.tmp 6), type := 23, pos := "shares.go:253", after := #[], guard := none }) (v := (.agg (cellsOf .u8 (up salt)))) rfl (by kernel_rfl) (by kernel_rfl) (by kernel_rfl) (fun _ _ _ h => h) (yields_load digT rfl (.tmp 6) rfl rfl SL.out (fun w h => LS.out w h)) hS ?_
  try simp only [Act.put, List.setIfInBounds_toArray, List.set_cons_zero, List.set_cons_succ]
  refine wpAnyH_take (i := 4) (oi := { dst := some 19, op := Op.move (Operand.tmp 2), type := 24, pos := "shares.go:253", after := #[], guard := none }) (v := (.slice A2 n2 c2)) rfl (by kernel_rfl) (by kernel_rfl) (by kernel_rfl) (fun _ _ _ h => h) (yields_of rfl (fun w => by go_simp)) hS ?_
  try simp only [Act.put, List.setIfInBounds_toArray, List.set_cons_zero, List.set_cons_succ]
  refine wpAnyH_ready (rs := [2]) (by kernel_rfl) (by simp) ?_
  refine AllReadyH.cons (o := { dst := some 17, op := Op.call { callee := Callee.value (Operand.func 13), args := #[Operand.tmp 15, Operand.tmp 16], argTypes := #[23, 24] }, type := 23, pos := "shares.go:253", after := #[{ on := 0, ground := Ground.data }, { on := 1, ground := Ground.data }], guard := none }) rfl (fun K hK => ?_) AllReadyH.nil
  go_simp
  refine (unhid C1 _ hS).mono ?_
  rintro e wq1 ⟨rfl, hb1⟩
  go_wp2_with fail
  refine hK.out _ _ hb1 (fun hS1 => ?_)
  try simp only [Act.put, List.setIfInBounds_toArray, List.set_cons_zero, List.set_cons_succ]
  refine wpAnyH_ready (rs := [5]) (by kernel_rfl) (by simp) ?_
  refine AllReadyH.cons (o := { dst := some 20, op := Op.call { callee := Callee.value (Operand.func 14), args := #[Operand.tmp 17, Operand.tmp 18, Operand.tmp 19], argTypes := #[23, 23, 24] }, type := 4, pos := "shares.go:253", after := #[{ on := 2, ground := Ground.data }, { on := 3, ground := Ground.data }, { on := 4, ground := Ground.data }, { on := 2, ground := Ground.chain }], guard := none }) rfl (fun K hK => ?_) AllReadyH.nil
  go_simp
  refine (unhid C3 _ hS1).mono ?_
  rintro e wq2 ⟨rfl, hb2⟩
  go_wp2_with fail
  refine hK.out _ _ hb2 (fun hS2 => ?_)
  try simp only [Act.put, List.setIfInBounds_toArray, List.set_cons_zero, List.set_cons_succ]
  refine wpAnyH_take (i := 6) (oi := { dst := some 21, op := Op.unOp UnOp.not 4 (Operand.tmp 20), type := 4, pos := "shares.go:253", after := #[{ on := 5, ground := Ground.data }], guard := none }) (v := (.bool false)) rfl (by kernel_rfl) (by kernel_rfl) (by kernel_rfl) (fun _ _ _ h => h) (yields_of rfl (fun w => by go_simp)) hS2 ?_
  refine wpAnyH_done (by kernel_rfl) ?_ _
  have B1 := hid hb2
  clear C1 C3 hS hS1 hS2 hb1 hb2 LS
  go_wp2_with fail
  refine (bytes_any A2 A4 n2 c2 n4 c4 _ _ (up b) (up c) _ ((unhid HR2).below ((unhid E3).trans ((unhid B1).mono (unhid E3).size))) ((unhid HR4).below ((unhid E3).trans ((unhid B1).mono (unhid E3).size))) (by omega) (by omega)).mono ?_
  rintro e w5 ⟨k, rfl, hw5⟩
  have B5 : Hid (Below w3.heap.size w3 w5) := hid (by rw [← hw5]; exact (unhid B1).drewN k)
  clear hw5 B1
  have P55 := hid ((unhid P5).below (unhid B5) (by omega)); have P56 := hid ((unhid P6).below (unhid B5) (by omega)); have P58 := hid ((unhid P8).below (unhid B5) hz3)
  by_cases hsame : salt = other ∧ b = c
  · obtain ⟨rfl, rfl⟩ := hsame
    rw [show decide (up b = up b) = true by simp]
    go_wp2_with (with_reducible refine halt_op (some 25) (.load _ _) (fun K hK => ?_))
    refine go_on hK ?_; clear hK
    refine load_arr digT rfl (.tmp 6) rfl rfl (unhid P56) SL.out ?_
    refine load_arr digT rfl (.tmp 8) rfl rfl (unhid P58) SL.out ?_
    refine eql_arr digT (l1 := up salt) (l2 := up salt) (b := true) noGuardD rfl (.tmp 25) (.tmp 26) 23 rfl rfl rfl SL.out SL.out (by simp) ?_
    go_wp2_with fail
    go_ret
    exact ⟨rfl, (unhid E3).trans ((unhid B5).mono (unhid E3).size)⟩
  have hno : vowText salt b ≠ vowText other c := fun h => hsame (vowText_inj HS.out HO.out h)
  have HNO := hid hno
  clear hno
  obtain ⟨p, hp⟩ : ∃ p, decide (up salt = up other) = p := ⟨_, rfl⟩
  obtain ⟨q, hq⟩ : ∃ q, decide (up b = up c) = q := ⟨_, rfl⟩
  have hpq : (p && q) = false := by
    rw [← hp, ← hq, ← Bool.decide_and]
    exact decide_eq_false (fun h => hsame ⟨up_inj h.1, up_inj h.2⟩)
  have HP := hid hp
  rw [hq]
  clear hsame hp hq
  go_wp2_with (with_reducible refine halt_op (some 25) (.load _ _) (fun K hK => ?_))
  refine go_on hK ?_; clear hK
  refine load_arr digT rfl (.tmp 6) rfl rfl (unhid P56) SL.out ?_
  refine load_arr digT rfl (.tmp 8) rfl rfl (unhid P58) OL.out ?_
  refine eql_arr digT (l1 := up salt) (l2 := up other) (b := p) noGuardD rfl (.tmp 25) (.tmp 26) 23 rfl rfl rfl SL.out OL.out HP.out.symm ?_
  have hcase : p = false ∨ (p = true ∧ q = false) := by cases p <;> cases q <;> simp at hpq ⊢
  clear hpq HP
  rcases hcase with rfl | ⟨rfl, rfl⟩
  all_goals
    go_wp2_with (with_reducible refine halt_op (some 32) (.load _ _) (fun K hK => ?_))
    refine go_on hK ?_; clear hK
    refine load_arr digT rfl (.tmp 5) rfl rfl (unhid P55) VL.out ?_
    refine load_arr digT rfl (.tmp 6) rfl rfl (unhid P56) SL.out ?_
    go_wp2_with fail
    refine ((unhid CV) _ (unhid B5)).mono ?_
    rintro e w6 ⟨rfl, hb6⟩
    have B6 := hid hb6
    have P65 := hid ((unhid P5).below (unhid B6) (by omega)); have P68 := hid ((unhid P8).below (unhid B6) hz3)
    clear hb6
    by_cases hv1 : up v = up (vowN salt b)
    · rw [decide_eq_true hv1]
      have HV1 := hid hv1
      clear hv1
      go_wp2_with (with_reducible refine halt_op (some 39) (.load _ _) (fun K hK => ?_))
      refine go_on hK ?_; clear hK
      refine load_arr digT rfl (.tmp 5) rfl rfl (unhid P65) VL.out ?_
      refine load_arr digT rfl (.tmp 8) rfl rfl (unhid P68) OL.out ?_
      go_wp2_with fail
      refine ((unhid CO) _ (unhid B6)).mono ?_
      rintro e w7 ⟨rfl, hb7⟩
      have B7 := hid hb7
      have P76 := hid ((unhid P6).below (unhid B7) (by omega)); have P78 := hid ((unhid P8).below (unhid B7) hz3)
      have E7 := hid ((unhid E3).trans ((unhid B7).mono (unhid E3).size))
      have hz7 : w.heap.size ≤ w7.heap.size := (unhid E7).size
      clear hb7
      by_cases hv2 : up v = up (vowN other c)
      · rw [decide_eq_true hv2]
        have HE : Hid (up (Sh2.sum (vowText salt b)) = up (Sh2.sum (vowText other c))) := HV1.out.symm.trans hv2
        clear hv2 HV1
        go_wp2_with (with_reducible refine halt_op (some 45) (.load _ _) (fun K hK => ?_))
        refine go_on hK ?_; clear hK
        refine load_arr digT rfl (.tmp 6) rfl rfl (unhid P76) SL.out ?_
        go_wp2_with fail
        refine (vowText_any salt b A2 n2 c2 w.heap.size _ HS.out ((unhid HR2).below (unhid E7)) hz7 (by omega)).mono ?_
        rintro e w8 ⟨A8, k8, rfl, o8, e8⟩
        have E8 := hid ((unhid E7).trans (e8.mono hz7))
        have O8' := hid o8
        have P88 := hid ((unhid P78).below e8 (unhid P78).lt')
        have hz8 : w.heap.size ≤ w8.heap.size := (unhid E8).size
        have hz78 : w7.heap.size ≤ w8.heap.size := e8.size
        clear o8 e8
        go_wp2_with (with_reducible refine halt_op (some 48) (.load _ _) (fun K hK => ?_))
        refine go_on hK ?_; clear hK
        refine load_arr digT rfl (.tmp 8) rfl rfl (unhid P88) OL.out ?_
        go_wp2_with fail
        refine (vowText_any other c A4 n4 c4 w.heap.size _ HO.out ((unhid HR4).below (unhid E8)) hz8 (by omega)).mono ?_
        rintro e w9 ⟨A9, k9, rfl, o9, e9⟩
        have E9 := hid ((unhid E8).trans (e9.mono hz8))
        have X9 := hid ((Row.of_own (unhid O8')).below e9)
        have Y9 := hid (Row.of_own o9)
        have hz9 : w.heap.size ≤ w9.heap.size := (unhid E9).size
        have hz89 : w8.heap.size ≤ w9.heap.size := e9.size
        clear o9 e9 O8'
        go_wp2_with fail
        refine (bytes_any A8 A9 (33 + n2) k8 (33 + n4) k9 _ _ (up (vowText salt b)) (up (vowText other c)) _ (unhid X9) (unhid Y9) (by omega) (by omega)).mono ?_
        rintro e w10 ⟨k, rfl, hw10⟩
        have E10 : Hid (Below w.heap.size w w10) := hid (by rw [← hw10]; exact (unhid E9).drewN k)
        have X10 : Hid (Row w10 w8.heap.size 1 A8 (33 + n2) (bytes (vowText salt b))) := hid (by rw [← hw10]; exact (unhid X9).drewN k)
        have Y10 : Hid (Row w10 w9.heap.size 1 A9 (33 + n4) (bytes (vowText other c))) := hid (by rw [← hw10]; exact (unhid Y9).drewN k)
        have hz10 : w9.heap.size ≤ w10.heap.size := by rw [← hw10]; exact Nat.le_refl _
        rw [decide_eq_false (fun h => HNO.out (up_inj h))]
        clear hw10 X9 Y9
        go_wp2_with fail
        refine (rsum_any (vowText salt b) A8 (33 + n2) k8 _ _ (unhid X10) (by omega) (by omega) (vowText_B8 S8.out BB8.out)).mono ?_
        rintro e w11 ⟨rfl, hb11⟩
        have E11 := hid ((unhid E10).trans (hb11.mono (by omega)))
        have Y11 := hid ((unhid Y10).below (hb11.mono hz10))
        have hz11 : w9.heap.size ≤ w11.heap.size := by have := hb11.size; omega
        clear hb11 X10 Y10
        go_wp2_with fail
        refine (rsum_any (vowText other c) A9 (33 + n4) k9 _ _ (unhid Y11) hz11 (by omega) (vowText_B8 O8.out CC8.out)).mono ?_
        rintro e w12 ⟨rfl, hb12⟩
        have E12 := hid ((unhid E11).trans (hb12.mono (by omega)))
        clear hb12
        go_wp2_with (with_reducible refine halt_op (some 61) (.binOp _ _ _ _ _) (fun K hK => ?_))
        refine go_on hK ?_; clear hK
        refine eql_arr digT (l1 := up (Sh2.sum (vowText salt b))) (l2 := up (Sh2.sum (vowText other c))) (b := true) noGuardD rfl (.tmp 58) (.tmp 60) 23 rfl rfl rfl (sum_len_u _) (sum_len_u _) (by rw [HE.out]; simp) ?_
        go_wp2_with fail
        go_ret
        exact ⟨rfl, unhid E12⟩
      · rw [decide_eq_false hv2]
        clear hv2 HV1
        go_wp2_with fail
        go_ret
        exact ⟨rfl, unhid E7⟩
    · rw [decide_eq_false hv1]
      clear hv1
      go_wp2_with fail
      go_ret
      exact ⟨rfl, (unhid E3).trans ((unhid B6).mono (unhid E3).size)⟩
end Go.Proofs.YtlaoijnlemgdfaaDoor
