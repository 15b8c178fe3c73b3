/- The walks of the reference's Counts1 and Counts. -/
import Derived.Test.YtlaoijnlemgdfaaDoorBidTextW
namespace Go.Proofs.YtlaoijnlemgdfaaDoor
set_option linter.unusedVariables false
open Go.RowKit Go.Mny
theorem rng34 {w W : World} {D g o : Nat} {i : Nat} {cs : List Value} (h : Hid (w.rangeAt g (o + i * 34) cs)) (hg : g < D) (hW : Below D w W) : W.rangeAt g (o + i * 34) cs := fun j v hv =>
  (hW.cell (p := ⟨g, o + i * 34 + j, none⟩) hg).trans (h.out j v hv)
/-- a vow that is at hand -/
theorem vow_at {w : World} {D n x : Nat} {A : Option Addr} {Vs : List (List Int)} (h : Row w D 32 A n (Vs.flatten.map (Value.int .u8))) (hl : Vs.length = n) (h2 : ∀ l ∈ Vs, l.length = 32) (hx : x < n) :
    ∃ (g o : Nat) (d : List Int), A = some ⟨g, o, none⟩ ∧ g < D ∧ d.length = 32 ∧ Vs.getD x [] = d ∧ Hid (w.rangeAt g (o + x * 32) (d.map (Value.int .u8))) := by
  obtain ⟨d, hd⟩ : ∃ d, Vs[x]? = some d := ⟨_, List.getElem?_eq_getElem (by omega)⟩
  obtain ⟨g, o, e1, e2, e3⟩ := h.elem hx
  have hfl : ((Vs.flatten.map (Value.int .u8)).drop (x * 32)).take 32 = d.map (Value.int .u8) := by
    rw [← List.map_drop, ← List.map_take, flat_at h2 hd]
  rw [hfl] at e3
  exact ⟨g, o, d, e1, e2, h2 d (List.mem_of_getElem? hd), by rw [List.getD_eq_getElem?_getD, hd]; rfl, e3⟩
theorem rng32 {w W : World} {D g o x : Nat} {cs : List Value} (h : Hid (w.rangeAt g (o + x * 32) cs)) (hg : g < D) (hW : Below D w W) : W.rangeAt g (o + x * 32) cs := fun j v hv =>
  (hW.cell (p := ⟨g, o + x * 32 + j, none⟩) hg).trans (h.out j v hv)
theorem rsum_vow (b : Bd) (A : Option Addr) (c : Nat) (w W : World) (hk : BdOk b) (hv : vowOk b) (hr : Row w w.heap.size 1 A 45 (bytes (vowText b.salt (bigN b.who.toNat 4 ++ bigN b.amt.toNat 8)))) (hW : Below w.heap.size w W) :
    Calls Tryd.prog 11 #[.slice A 45 c] W fun e w' => e = .returned (.agg (cellsOf .u8 (up (vowB b)))) ∧ Below w.heap.size w w' :=
  (rsum_any _ A 45 c w.heap.size W (hr.below hW) hW.size (by decide) (vowText_B8 hk.2.1 ((bigN_B8 _ _).append (bigN_B8 _ _)))).mono fun e w' h => ⟨h.1, hW.trans (h.2.mono hW.size)⟩
set_option maxHeartbeats 2000000 in
set_option maxRecDepth 100000 in
theorem counts1_any (Vs : List (List Int)) (b : Bd) (A0 : Option Addr) (n0 c0 D : Nat) (w : World) (hV : Row w D 32 A0 n0 (Vs.flatten.map (Value.int .u8))) (hVl : Vs.length = n0) (hV2 : ∀ l ∈ Vs, l.length = 32) (hD : D ≤ w.heap.size) (hk : BdOk b) (r : Bool) (hr : r = true ↔ okB Vs b) :
    Calls Tryd.prog 52 #[.slice A0 n0 c0, .agg (bc b).toArray] w fun e w' => e = .returned (.bool r) ∧ Below w.heap.size w w' := by
  have HV := hid hV; have HVL := hid hVl; have HV2 := hid hV2; have HBK := hid hk; have HR := hid hr
  have HLb := hid (bc_len hk.1)
  clear hV hVl hV2 hk hr
  go_enter Tryd.func52, Tryd.ntmps52
  go_wp2_with (with_reducible refine halt_op (some 3) (.box _ _) (fun K hK => ?_))
  refine go_on hK ?_; clear hK
  refine box_row (cs := (bc b).toArray) rfl (.tmp 1) rfl rfl ?_
  rintro g3 w1 hg3 s1 b1 e1
  have hw1 : w.heap.size ≤ g3 := by omega
  have h31 : g3 < w1.heap.size := by omega
  have B1 := hid b1; have E1 := hid (e1.mono hw1)
  have hww1 : w.heap.size ≤ w1.heap.size := by omega
  clear b1 e1 hg3 s1
  go_wp2_with (with_reducible refine halt_op (some 8) (.load _ _) (fun K hK => ?_))
  refine go_on hK ?_; clear hK
  refine load_mid bidT rfl (.tmp 3) rfl rfl (Blk.rng (unhid B1)) HLb.out ?_
  by_cases hvk : vowOk b
  · obtain ⟨x, hx⟩ := Int.eq_ofNat_of_zero_le hvk.1
    have TY := hid (text_yes b w1 HBK.out hvk)
    have HVK := hid hvk; have HX := hid hx
    clear hvk hx
    go_wp2_with fail
    refine (unhid TY).mono ?_
    rintro e w5 ⟨A5, c5, rfl, r5, hb5⟩
    have B5 := hid ((unhid B1).below hb5 h31)
    have E5 := hid ((unhid E1).trans (hb5.mono hww1))
    have h35 : g3 < w5.heap.size := Nat.lt_of_lt_of_le h31 hb5.size
    have CS := hid fun W (hW : Below w5.heap.size w5 W) => rsum_vow b A5 c5 w5 W HBK.out HVK.out r5 hW
    have CW : Hid (∀ W, Below w5.heap.size w5 W → W.cell? ⟨g3, 0, none⟩ = some (.int .i64 (x : Int))) := hid fun W hW => by
      rw [Blk.cell_of ((unhid B5).below hW h35), ← HX.out]; rfl
    clear r5 hb5 TY
    go_wp2_with fail
    by_cases hxn : x < n0
    · obtain ⟨gv, ov, dv, rfl, hgv, hdl, hgd, hrg⟩ := vow_at ((unhid HV).below ((unhid E5).mono hD)) HVL.out HV2.out hxn
      have hgv5 : gv < w5.heap.size := by have := (unhid E5).size; omega
      have CV := hid fun W (hW : Below w5.heap.size w5 W) => rng32 hrg hgv5 hW
      have HDL := hid hdl; have HGD := hid hgd
      have x1 : (0 : Int) ≤ (x : Int) := by omega
      have x2 : (x : Int) < (n0 : Int) := by omega
      clear hdl hgd hrg
      by_cases hne : up (vowB b) = dv
      · have HNE : Hid (true = decide (up (vowB b) = dv)) := hid (by simp [hne])
        have hrt : r = true := HR.out.2 ⟨HVK.out, by rw [HX.out, HVL.out]; omega, by rw [HX.out]; show Vs.getD x [] = _; rw [HGD.out, hne]⟩
        have HRT := hid hrt
        clear hne hrt
        refine wp_region_held_drew (S := fun w' => Below w5.heap.size w5 w') (by kernel_rfl) ((Below.refl _ _).drew) (fun hS => ?_)
        refine wpAnyH_take (i := 0) (oi := { dst := some 12, op := Op.move (Operand.tmp 6), type := 4, pos := "rest.go:195", after := #[], guard := none }) (v := (.bool true)) rfl (by kernel_rfl) (by kernel_rfl) (by kernel_rfl) (fun _ _ _ h => h) (yields_of rfl (fun w => by go_simp)) hS ?_
        try simp only [Act.put, List.setIfInBounds_toArray, List.set_cons_zero, List.set_cons_succ]
        refine wpAnyH_take (i := 1) (oi := { dst := some 13, op := Op.move (Operand.tmp 12), type := 4, pos := "rest.go:195", after := #[{ on := 0, ground := Ground.data }], guard := none }) (v := (.bool true)) rfl (by kernel_rfl) (by kernel_rfl) (by kernel_rfl) (fun _ _ _ h => h) (yields_of rfl (fun w => by go_simp)) hS ?_
        try simp only [Act.put, List.setIfInBounds_toArray, List.set_cons_zero, List.set_cons_succ]
        refine wpAnyH_take (i := 2) (oi := { dst := some 14, op := Op.fieldAddr 62 (Operand.tmp 3) 0, type := 0, pos := "rest.go:195", after := #[{ on := 1, ground := Ground.guard }], guard := some (1, true) }) (v := (.pointer (some ⟨g3, 0, none⟩))) rfl (by kernel_rfl) (by kernel_rfl) (by kernel_rfl) (fun _ _ _ h => h) (yields_of rfl (fun w => by go_simp)) hS ?_
        try simp only [Act.put, List.setIfInBounds_toArray, List.set_cons_zero, List.set_cons_succ]
        refine wpAnyH_take (i := 3) (oi := { dst := some 15, op := Op.load 3 (Operand.tmp 14), type := 3, pos := "rest.go:195", after := #[{ on := 2, ground := Ground.data }, { on := 1, ground := Ground.guard }], guard := some (1, true) }) (v := (.int .i64 (x : Int))) rfl (by kernel_rfl) (by kernel_rfl) (by kernel_rfl) (fun _ _ _ h => h) (.inl ⟨rfl, fun w h => by have e := CW.out w h; go_simp⟩) hS ?_
        try simp only [Act.put, List.setIfInBounds_toArray, List.set_cons_zero, List.set_cons_succ]
        refine wpAnyH_take (i := 4) (oi := { dst := some 16, op := Op.move (Operand.tmp 0), type := 43, pos := "rest.go:195", after := #[{ on := 1, ground := Ground.guard }], guard := some (1, true) }) (v := (.slice (some ⟨gv, ov, none⟩) n0 c0)) rfl (by kernel_rfl) (by kernel_rfl) (by kernel_rfl) (fun _ _ _ h => h) (yields_of rfl (fun w => by go_simp)) hS ?_
        try simp only [Act.put, List.setIfInBounds_toArray, List.set_cons_zero, List.set_cons_succ]
        refine wpAnyH_take (i := 5) (oi := { dst := some 17, op := Op.call { callee := Callee.builtin Builtin.len, args := #[Operand.tmp 16], argTypes := #[43] }, type := 3, pos := "rest.go:195", after := #[{ on := 4, ground := Ground.data }, { on := 1, ground := Ground.guard }], guard := some (1, true) }) (v := (.int .i64 (n0 : Int))) rfl (by kernel_rfl) (by kernel_rfl) (by kernel_rfl) (fun _ _ _ h => h) (yields_of rfl (fun w => by go_simp)) hS ?_
        try simp only [Act.put, List.setIfInBounds_toArray, List.set_cons_zero, List.set_cons_succ]
        refine wpAnyH_take (i := 6) (oi := { dst := some 18, op := Op.binOp BinOp.lss 3 (Operand.tmp 15) (Operand.tmp 17) 3, type := 4, pos := "rest.go:195", after := #[{ on := 3, ground := Ground.data }, { on := 5, ground := Ground.data }, { on := 1, ground := Ground.guard }], guard := some (1, true) }) (v := (.bool true)) rfl (by kernel_rfl) (by kernel_rfl) (by kernel_rfl) (fun _ _ _ h => h) (yields_of rfl (fun w => by go_simp)) hS ?_
        try simp only [Act.put, List.setIfInBounds_toArray, List.set_cons_zero, List.set_cons_succ]
        refine wpAnyH_take (i := 7) (oi := { dst := some 19, op := Op.pick (Operand.tmp 13) (Operand.tmp 18) (Operand.const (Value.bool false)), type := 4, pos := "rest.go:195", after := #[{ on := 1, ground := Ground.data }, { on := 6, ground := Ground.data }], guard := none }) (v := (.bool true)) rfl (by kernel_rfl) (by kernel_rfl) (by kernel_rfl) (fun _ _ _ h => h) (yields_of rfl (fun w => by go_simp)) hS ?_
        try simp only [Act.put, List.setIfInBounds_toArray, List.set_cons_zero, List.set_cons_succ]
        refine wpAnyH_take (i := 8) (oi := { dst := some 20, op := Op.move (Operand.tmp 19), type := 4, pos := "rest.go:195", after := #[{ on := 7, ground := Ground.data }, { on := 1, ground := Ground.chain }], guard := none }) (v := (.bool true)) rfl (by kernel_rfl) (by kernel_rfl) (by kernel_rfl) (fun _ _ _ h => h) (yields_of rfl (fun w => by go_simp)) hS ?_
        try simp only [Act.put, List.setIfInBounds_toArray, List.set_cons_zero, List.set_cons_succ]
        refine wpAnyH_take (i := 9) (oi := { dst := some 21, op := Op.move (Operand.tmp 5), type := 24, pos := "rest.go:195", after := #[{ on := 8, ground := Ground.guard }], guard := some (8, true) }) (v := (.slice A5 45 c5)) rfl (by kernel_rfl) (by kernel_rfl) (by kernel_rfl) (fun _ _ _ h => h) (yields_of rfl (fun w => by go_simp)) hS ?_
        try simp only [Act.put, List.setIfInBounds_toArray, List.set_cons_zero, List.set_cons_succ]
        refine wpAnyH_take (i := 11) (oi := { dst := some 23, op := Op.move (Operand.tmp 0), type := 43, pos := "rest.go:195", after := #[{ on := 8, ground := Ground.guard }], guard := some (8, true) }) (v := (.slice (some ⟨gv, ov, none⟩) n0 c0)) rfl (by kernel_rfl) (by kernel_rfl) (by kernel_rfl) (fun _ _ _ h => h) (yields_of rfl (fun w => by go_simp)) hS ?_
        try simp only [Act.put, List.setIfInBounds_toArray, List.set_cons_zero, List.set_cons_succ]
        refine wpAnyH_take (i := 12) (oi := { dst := some 24, op := Op.fieldAddr 62 (Operand.tmp 3) 0, type := 0, pos := "rest.go:195", after := #[{ on := 8, ground := Ground.guard }], guard := some (8, true) }) (v := (.pointer (some ⟨g3, 0, none⟩))) rfl (by kernel_rfl) (by kernel_rfl) (by kernel_rfl) (fun _ _ _ h => h) (yields_of rfl (fun w => by go_simp)) hS ?_
        try simp only [Act.put, List.setIfInBounds_toArray, List.set_cons_zero, List.set_cons_succ]
        refine wpAnyH_take (i := 13) (oi := { dst := some 25, op := Op.load 3 (Operand.tmp 24), type := 3, pos := "rest.go:195", after := #[{ on := 12, ground := Ground.data }, { on := 8, ground := Ground.guard }], guard := some (8, true) }) (v := (.int .i64 (x : Int))) rfl (by kernel_rfl) (by kernel_rfl) (by kernel_rfl) (fun _ _ _ h => h) (.inl ⟨rfl, fun w h => by have e := CW.out w h; go_simp⟩) hS ?_
        try simp only [Act.put, List.setIfInBounds_toArray, List.set_cons_zero, List.set_cons_succ]
        refine wpAnyH_take (i := 14) (oi := { dst := some 26, op := Op.indexAddr 43 (Operand.tmp 23) (Operand.tmp 25), type := 0, pos := "rest.go:195", after := #[{ on := 11, ground := Ground.data }, { on := 13, ground := Ground.data }, { on := 8, ground := Ground.guard }], guard := some (8, true) }) (v := (.pointer (some ⟨gv, ov + x * 32, none⟩))) rfl (by kernel_rfl) (by kernel_rfl) (by kernel_rfl) (fun _ _ _ h => h) (yields_of rfl (fun w => by go_simp)) hS ?_
        try simp only [Act.put, List.setIfInBounds_toArray, List.set_cons_zero, List.set_cons_succ]
        refine wpAnyH_take (i := 15) (oi := { dst := some 27, op := Op.load 23 (Operand.tmp 26), type := 23, pos := "rest.go:195", after := #[{ on := 14, ground := Ground.data }, { on := 8, ground := Ground.guard }], guard := some (8, true) }) (v := (.agg (cellsOf .u8 dv))) rfl (by kernel_rfl) (by kernel_rfl) (by kernel_rfl) (fun _ _ _ h => h) (yields_load digT rfl (.tmp 26) rfl rfl HDL.out (fun w h => CV.out w h)) hS ?_
        try simp only [Act.put, List.setIfInBounds_toArray, List.set_cons_zero, List.set_cons_succ]
        refine wpAnyH_ready (rs := [10]) (by kernel_rfl) (by simp) ?_
        refine AllReadyH.cons (o := { dst := some 22, op := Op.call { callee := Callee.value (Operand.func 11), args := #[Operand.tmp 21], argTypes := #[24] }, type := 23, pos := "rest.go:195", after := #[{ on := 9, ground := Ground.data }, { on := 8, ground := Ground.chain }, { on := 8, ground := Ground.guard }], guard := some (8, true) }) rfl (fun K hK => ?_) AllReadyH.nil
        go_simp
        refine (unhid CS _ hS).mono ?_
        rintro e wq1 ⟨rfl, hb1⟩
        go_wp2_with fail
        refine hK.out _ _ hb1 (fun hS1 => ?_)
        try simp only [Act.put, List.setIfInBounds_toArray, List.set_cons_zero, List.set_cons_succ]
        refine wpAnyH_take (i := 16) (oi := { dst := some 28, op := Op.binOp BinOp.eql 23 (Operand.tmp 22) (Operand.tmp 27) 23, type := 4, pos := "rest.go:195", after := #[{ on := 10, ground := Ground.data }, { on := 15, ground := Ground.data }, { on := 8, ground := Ground.guard }], guard := some (8, true) }) (v := (.bool true)) rfl (by kernel_rfl) (by kernel_rfl) (by kernel_rfl) (fun _ _ _ h => h) (yields_eql digT noGuardD rfl (.tmp 22) (.tmp 27) 23 rfl rfl rfl (sum_len_u _) HDL.out HNE.out) hS1 ?_
        try simp only [Act.put, List.setIfInBounds_toArray, List.set_cons_zero, List.set_cons_succ]
        refine wpAnyH_take (i := 17) (oi := { dst := some 29, op := Op.pick (Operand.tmp 20) (Operand.tmp 28) (Operand.const (Value.bool false)), type := 4, pos := "rest.go:195", after := #[{ on := 8, ground := Ground.data }, { on := 16, ground := Ground.data }], guard := none }) (v := (.bool true)) rfl (by kernel_rfl) (by kernel_rfl) (by kernel_rfl) (fun _ _ _ h => h) (yields_of rfl (fun w => by go_simp)) hS1 ?_
        try simp only [Act.put, List.setIfInBounds_toArray, List.set_cons_zero, List.set_cons_succ]
        refine wpAnyH_ready (rs := [18]) (by kernel_rfl) (by simp) ?_
        refine AllReadyH.cons (o := { dst := some 4, op := Op.assign (Operand.tmp 29), type := 4, pos := "rest.go:195", after := #[{ on := 17, ground := Ground.data }, { on := 10, ground := Ground.chain }, { on := 0, ground := Ground.phase }, { on := 1, ground := Ground.phase }, { on := 2, ground := Ground.phase }, { on := 3, ground := Ground.phase }, { on := 4, ground := Ground.phase }, { on := 5, ground := Ground.phase }, { on := 6, ground := Ground.phase }, { on := 7, ground := Ground.phase }, { on := 8, ground := Ground.phase }, { on := 9, ground := Ground.phase }, { on := 10, ground := Ground.phase }, { on := 11, ground := Ground.phase }, { on := 12, ground := Ground.phase }, { on := 13, ground := Ground.phase }, { on := 14, ground := Ground.phase }, { on := 15, ground := Ground.phase }, { on := 16, ground := Ground.phase }, { on := 17, ground := Ground.phase }], guard := none }) rfl (fun K hK => ?_) AllReadyH.nil
        go_simp
        refine hK.out _ _ hS1 (fun hS2 => ?_)
        refine wpAnyH_done (by kernel_rfl) ?_ _
        have E9 := hid ((unhid E5).trans (hb1.mono (unhid E5).size))
        go_wp2_with fail
        go_ret
        exact ⟨by rw [HRT.out]; rfl, unhid E9⟩
      · have HNE : Hid (false = decide (up (vowB b) = dv)) := hid (by simp [hne])
        have hrf : r = false := by
          cases r with
          | false => rfl
          | true => exact absurd (by have h := (HR.out.1 rfl).2.2; rw [HX.out] at h; rw [← HGD.out]; exact h.symm) hne
        have HRF := hid hrf
        clear hne hrf
        refine wp_region_held_drew (S := fun w' => Below w5.heap.size w5 w') (by kernel_rfl) ((Below.refl _ _).drew) (fun hS => ?_)
        refine wpAnyH_take (i := 0) (oi := { dst := some 12, op := Op.move (Operand.tmp 6), type := 4, pos := "rest.go:195", after := #[], guard := none }) (v := (.bool true)) rfl (by kernel_rfl) (by kernel_rfl) (by kernel_rfl) (fun _ _ _ h => h) (yields_of rfl (fun w => by go_simp)) hS ?_
        try simp only [Act.put, List.setIfInBounds_toArray, List.set_cons_zero, List.set_cons_succ]
        refine wpAnyH_take (i := 1) (oi := { dst := some 13, op := Op.move (Operand.tmp 12), type := 4, pos := "rest.go:195", after := #[{ on := 0, ground := Ground.data }], guard := none }) (v := (.bool true)) rfl (by kernel_rfl) (by kernel_rfl) (by kernel_rfl) (fun _ _ _ h => h) (yields_of rfl (fun w => by go_simp)) hS ?_
        try simp only [Act.put, List.setIfInBounds_toArray, List.set_cons_zero, List.set_cons_succ]
        refine wpAnyH_take (i := 2) (oi := { dst := some 14, op := Op.fieldAddr 62 (Operand.tmp 3) 0, type := 0, pos := "rest.go:195", after := #[{ on := 1, ground := Ground.guard }], guard := some (1, true) }) (v := (.pointer (some ⟨g3, 0, none⟩))) rfl (by kernel_rfl) (by kernel_rfl) (by kernel_rfl) (fun _ _ _ h => h) (yields_of rfl (fun w => by go_simp)) hS ?_
        try simp only [Act.put, List.setIfInBounds_toArray, List.set_cons_zero, List.set_cons_succ]
        refine wpAnyH_take (i := 3) (oi := { dst := some 15, op := Op.load 3 (Operand.tmp 14), type := 3, pos := "rest.go:195", after := #[{ on := 2, ground := Ground.data }, { on := 1, ground := Ground.guard }], guard := some (1, true) }) (v := (.int .i64 (x : Int))) rfl (by kernel_rfl) (by kernel_rfl) (by kernel_rfl) (fun _ _ _ h => h) (.inl ⟨rfl, fun w h => by have e := CW.out w h; go_simp⟩) hS ?_
        try simp only [Act.put, List.setIfInBounds_toArray, List.set_cons_zero, List.set_cons_succ]
        refine wpAnyH_take (i := 4) (oi := { dst := some 16, op := Op.move (Operand.tmp 0), type := 43, pos := "rest.go:195", after := #[{ on := 1, ground := Ground.guard }], guard := some (1, true) }) (v := (.slice (some ⟨gv, ov, none⟩) n0 c0)) rfl (by kernel_rfl) (by kernel_rfl) (by kernel_rfl) (fun _ _ _ h => h) (yields_of rfl (fun w => by go_simp)) hS ?_
        try simp only [Act.put, List.setIfInBounds_toArray, List.set_cons_zero, List.set_cons_succ]
        refine wpAnyH_take (i := 5) (oi := { dst := some 17, op := Op.call { callee := Callee.builtin Builtin.len, args := #[Operand.tmp 16], argTypes := #[43] }, type := 3, pos := "rest.go:195", after := #[{ on := 4, ground := Ground.data }, { on := 1, ground := Ground.guard }], guard := some (1, true) }) (v := (.int .i64 (n0 : Int))) rfl (by kernel_rfl) (by kernel_rfl) (by kernel_rfl) (fun _ _ _ h => h) (yields_of rfl (fun w => by go_simp)) hS ?_
        try simp only [Act.put, List.setIfInBounds_toArray, List.set_cons_zero, List.set_cons_succ]
        refine wpAnyH_take (i := 6) (oi := { dst := some 18, op := Op.binOp BinOp.lss 3 (Operand.tmp 15) (Operand.tmp 17) 3, type := 4, pos := "rest.go:195", after := #[{ on := 3, ground := Ground.data }, { on := 5, ground := Ground.data }, { on := 1, ground := Ground.guard }], guard := some (1, true) }) (v := (.bool true)) rfl (by kernel_rfl) (by kernel_rfl) (by kernel_rfl) (fun _ _ _ h => h) (yields_of rfl (fun w => by go_simp)) hS ?_
        try simp only [Act.put, List.setIfInBounds_toArray, List.set_cons_zero, List.set_cons_succ]
        refine wpAnyH_take (i := 7) (oi := { dst := some 19, op := Op.pick (Operand.tmp 13) (Operand.tmp 18) (Operand.const (Value.bool false)), type := 4, pos := "rest.go:195", after := #[{ on := 1, ground := Ground.data }, { on := 6, ground := Ground.data }], guard := none }) (v := (.bool true)) rfl (by kernel_rfl) (by kernel_rfl) (by kernel_rfl) (fun _ _ _ h => h) (yields_of rfl (fun w => by go_simp)) hS ?_
        try simp only [Act.put, List.setIfInBounds_toArray, List.set_cons_zero, List.set_cons_succ]
        refine wpAnyH_take (i := 8) (oi := { dst := some 20, op := Op.move (Operand.tmp 19), type := 4, pos := "rest.go:195", after := #[{ on := 7, ground := Ground.data }, { on := 1, ground := Ground.chain }], guard := none }) (v := (.bool true)) rfl (by kernel_rfl) (by kernel_rfl) (by kernel_rfl) (fun _ _ _ h => h) (yields_of rfl (fun w => by go_simp)) hS ?_
        try simp only [Act.put, List.setIfInBounds_toArray, List.set_cons_zero, List.set_cons_succ]
        refine wpAnyH_take (i := 9) (oi := { dst := some 21, op := Op.move (Operand.tmp 5), type := 24, pos := "rest.go:195", after := #[{ on := 8, ground := Ground.guard }], guard := some (8, true) }) (v := (.slice A5 45 c5)) rfl (by kernel_rfl) (by kernel_rfl) (by kernel_rfl) (fun _ _ _ h => h) (yields_of rfl (fun w => by go_simp)) hS ?_
        try simp only [Act.put, List.setIfInBounds_toArray, List.set_cons_zero, List.set_cons_succ]
        refine wpAnyH_take (i := 11) (oi := { dst := some 23, op := Op.move (Operand.tmp 0), type := 43, pos := "rest.go:195", after := #[{ on := 8, ground := Ground.guard }], guard := some (8, true) }) (v := (.slice (some ⟨gv, ov, none⟩) n0 c0)) rfl (by kernel_rfl) (by kernel_rfl) (by kernel_rfl) (fun _ _ _ h => h) (yields_of rfl (fun w => by go_simp)) hS ?_
        try simp only [Act.put, List.setIfInBounds_toArray, List.set_cons_zero, List.set_cons_succ]
        refine wpAnyH_take (i := 12) (oi := { dst := some 24, op := Op.fieldAddr 62 (Operand.tmp 3) 0, type := 0, pos := "rest.go:195", after := #[{ on := 8, ground := Ground.guard }], guard := some (8, true) }) (v := (.pointer (some ⟨g3, 0, none⟩))) rfl (by kernel_rfl) (by kernel_rfl) (by kernel_rfl) (fun _ _ _ h => h) (yields_of rfl (fun w => by go_simp)) hS ?_
        try simp only [Act.put, List.setIfInBounds_toArray, List.set_cons_zero, List.set_cons_succ]
        refine wpAnyH_take (i := 13) (oi := { dst := some 25, op := Op.load 3 (Operand.tmp 24), type := 3, pos := "rest.go:195", after := #[{ on := 12, ground := Ground.data }, { on := 8, ground := Ground.guard }], guard := some (8, true) }) (v := (.int .i64 (x : Int))) rfl (by kernel_rfl) (by kernel_rfl) (by kernel_rfl) (fun _ _ _ h => h) (.inl ⟨rfl, fun w h => by have e := CW.out w h; go_simp⟩) hS ?_
        try simp only [Act.put, List.setIfInBounds_toArray, List.set_cons_zero, List.set_cons_succ]
        refine wpAnyH_take (i := 14) (oi := { dst := some 26, op := Op.indexAddr 43 (Operand.tmp 23) (Operand.tmp 25), type := 0, pos := "rest.go:195", after := #[{ on := 11, ground := Ground.data }, { on := 13, ground := Ground.data }, { on := 8, ground := Ground.guard }], guard := some (8, true) }) (v := (.pointer (some ⟨gv, ov + x * 32, none⟩))) rfl (by kernel_rfl) (by kernel_rfl) (by kernel_rfl) (fun _ _ _ h => h) (yields_of rfl (fun w => by go_simp)) hS ?_
        try simp only [Act.put, List.setIfInBounds_toArray, List.set_cons_zero, List.set_cons_succ]
        refine wpAnyH_take (i := 15) (oi := { dst := some 27, op := Op.load 23 (Operand.tmp 26), type := 23, pos := "rest.go:195", after := #[{ on := 14, ground := Ground.data }, { on := 8, ground := Ground.guard }], guard := some (8, true) }) (v := (.agg (cellsOf .u8 dv))) rfl (by kernel_rfl) (by kernel_rfl) (by kernel_rfl) (fun _ _ _ h => h) (yields_load digT rfl (.tmp 26) rfl rfl HDL.out (fun w h => CV.out w h)) hS ?_
        try simp only [Act.put, List.setIfInBounds_toArray, List.set_cons_zero, List.set_cons_succ]
        refine wpAnyH_ready (rs := [10]) (by kernel_rfl) (by simp) ?_
        refine AllReadyH.cons (o := { dst := some 22, op := Op.call { callee := Callee.value (Operand.func 11), args := #[Operand.tmp 21], argTypes := #[24] }, type := 23, pos := "rest.go:195", after := #[{ on := 9, ground := Ground.data }, { on := 8, ground := Ground.chain }, { on := 8, ground := Ground.guard }], guard := some (8, true) }) rfl (fun K hK => ?_) AllReadyH.nil
        go_simp
        refine (unhid CS _ hS).mono ?_
        rintro e wq1 ⟨rfl, hb1⟩
        go_wp2_with fail
        refine hK.out _ _ hb1 (fun hS1 => ?_)
        try simp only [Act.put, List.setIfInBounds_toArray, List.set_cons_zero, List.set_cons_succ]
        refine wpAnyH_take (i := 16) (oi := { dst := some 28, op := Op.binOp BinOp.eql 23 (Operand.tmp 22) (Operand.tmp 27) 23, type := 4, pos := "rest.go:195", after := #[{ on := 10, ground := Ground.data }, { on := 15, ground := Ground.data }, { on := 8, ground := Ground.guard }], guard := some (8, true) }) (v := (.bool false)) rfl (by kernel_rfl) (by kernel_rfl) (by kernel_rfl) (fun _ _ _ h => h) (yields_eql digT noGuardD rfl (.tmp 22) (.tmp 27) 23 rfl rfl rfl (sum_len_u _) HDL.out HNE.out) hS1 ?_
        try simp only [Act.put, List.setIfInBounds_toArray, List.set_cons_zero, List.set_cons_succ]
        refine wpAnyH_take (i := 17) (oi := { dst := some 29, op := Op.pick (Operand.tmp 20) (Operand.tmp 28) (Operand.const (Value.bool false)), type := 4, pos := "rest.go:195", after := #[{ on := 8, ground := Ground.data }, { on := 16, ground := Ground.data }], guard := none }) (v := (.bool false)) rfl (by kernel_rfl) (by kernel_rfl) (by kernel_rfl) (fun _ _ _ h => h) (yields_of rfl (fun w => by go_simp)) hS1 ?_
        try simp only [Act.put, List.setIfInBounds_toArray, List.set_cons_zero, List.set_cons_succ]
        refine wpAnyH_ready (rs := [18]) (by kernel_rfl) (by simp) ?_
        refine AllReadyH.cons (o := { dst := some 4, op := Op.assign (Operand.tmp 29), type := 4, pos := "rest.go:195", after := #[{ on := 17, ground := Ground.data }, { on := 10, ground := Ground.chain }, { on := 0, ground := Ground.phase }, { on := 1, ground := Ground.phase }, { on := 2, ground := Ground.phase }, { on := 3, ground := Ground.phase }, { on := 4, ground := Ground.phase }, { on := 5, ground := Ground.phase }, { on := 6, ground := Ground.phase }, { on := 7, ground := Ground.phase }, { on := 8, ground := Ground.phase }, { on := 9, ground := Ground.phase }, { on := 10, ground := Ground.phase }, { on := 11, ground := Ground.phase }, { on := 12, ground := Ground.phase }, { on := 13, ground := Ground.phase }, { on := 14, ground := Ground.phase }, { on := 15, ground := Ground.phase }, { on := 16, ground := Ground.phase }, { on := 17, ground := Ground.phase }], guard := none }) rfl (fun K hK => ?_) AllReadyH.nil
        go_simp
        refine hK.out _ _ hS1 (fun hS2 => ?_)
        refine wpAnyH_done (by kernel_rfl) ?_ _
        have E9 := hid ((unhid E5).trans (hb1.mono (unhid E5).size))
        go_wp2_with fail
        go_ret
        exact ⟨by rw [HRF.out]; rfl, unhid E9⟩
    · have x2 : ¬ (x : Int) < (n0 : Int) := by omega
      have hrf : r = false := by
        cases r with
        | false => rfl
        | true => have h := (HR.out.1 rfl).2.1; rw [HX.out, HVL.out] at h; omega
      have HRF := hid hrf
      clear hrf hxn
      refine wp_region_held_drew (S := fun w' => Below w5.heap.size w5 w') (by kernel_rfl) ((Below.refl _ _).drew) (fun hS => ?_)
      refine wpAnyH_take (i := 0) (oi := { dst := some 12, op := Op.move (Operand.tmp 6), type := 4, pos := "rest.go:195", after := #[], guard := none }) (v := (.bool true)) rfl (by kernel_rfl) (by kernel_rfl) (by kernel_rfl) (fun _ _ _ h => h) (yields_of rfl (fun w => by go_simp)) hS ?_
      try simp only [Act.put, List.setIfInBounds_toArray, List.set_cons_zero, List.set_cons_succ]
      refine wpAnyH_take (i := 1) (oi := { dst := some 13, op := Op.move (Operand.tmp 12), type := 4, pos := "rest.go:195", after := #[{ on := 0, ground := Ground.data }], guard := none }) (v := (.bool true)) rfl (by kernel_rfl) (by kernel_rfl) (by kernel_rfl) (fun _ _ _ h => h) (yields_of rfl (fun w => by go_simp)) hS ?_
      try simp only [Act.put, List.setIfInBounds_toArray, List.set_cons_zero, List.set_cons_succ]
      refine wpAnyH_take (i := 2) (oi := { dst := some 14, op := Op.fieldAddr 62 (Operand.tmp 3) 0, type := 0, pos := "rest.go:195", after := #[{ on := 1, ground := Ground.guard }], guard := some (1, true) }) (v := (.pointer (some ⟨g3, 0, none⟩))) rfl (by kernel_rfl) (by kernel_rfl) (by kernel_rfl) (fun _ _ _ h => h) (yields_of rfl (fun w => by go_simp)) hS ?_
      try simp only [Act.put, List.setIfInBounds_toArray, List.set_cons_zero, List.set_cons_succ]
      refine wpAnyH_take (i := 3) (oi := { dst := some 15, op := Op.load 3 (Operand.tmp 14), type := 3, pos := "rest.go:195", after := #[{ on := 2, ground := Ground.data }, { on := 1, ground := Ground.guard }], guard := some (1, true) }) (v := (.int .i64 (x : Int))) rfl (by kernel_rfl) (by kernel_rfl) (by kernel_rfl) (fun _ _ _ h => h) (.inl ⟨rfl, fun w h => by have e := CW.out w h; go_simp⟩) hS ?_
      try simp only [Act.put, List.setIfInBounds_toArray, List.set_cons_zero, List.set_cons_succ]
      refine wpAnyH_take (i := 4) (oi := { dst := some 16, op := Op.move (Operand.tmp 0), type := 43, pos := "rest.go:195", after := #[{ on := 1, ground := Ground.guard }], guard := some (1, true) }) (v := (.slice A0 n0 c0)) rfl (by kernel_rfl) (by kernel_rfl) (by kernel_rfl) (fun _ _ _ h => h) (yields_of rfl (fun w => by go_simp)) hS ?_
      try simp only [Act.put, List.setIfInBounds_toArray, List.set_cons_zero, List.set_cons_succ]
      refine wpAnyH_take (i := 5) (oi := { dst := some 17, op := Op.call { callee := Callee.builtin Builtin.len, args := #[Operand.tmp 16], argTypes := #[43] }, type := 3, pos := "rest.go:195", after := #[{ on := 4, ground := Ground.data }, { on := 1, ground := Ground.guard }], guard := some (1, true) }) (v := (.int .i64 (n0 : Int))) rfl (by kernel_rfl) (by kernel_rfl) (by kernel_rfl) (fun _ _ _ h => h) (yields_of rfl (fun w => by go_simp)) hS ?_
      try simp only [Act.put, List.setIfInBounds_toArray, List.set_cons_zero, List.set_cons_succ]
      refine wpAnyH_take (i := 6) (oi := { dst := some 18, op := Op.binOp BinOp.lss 3 (Operand.tmp 15) (Operand.tmp 17) 3, type := 4, pos := "rest.go:195", after := #[{ on := 3, ground := Ground.data }, { on := 5, ground := Ground.data }, { on := 1, ground := Ground.guard }], guard := some (1, true) }) (v := (.bool false)) rfl (by kernel_rfl) (by kernel_rfl) (by kernel_rfl) (fun _ _ _ h => h) (yields_of rfl (fun w => by go_simp)) hS ?_
      try simp only [Act.put, List.setIfInBounds_toArray, List.set_cons_zero, List.set_cons_succ]
      refine wpAnyH_take (i := 7) (oi := { dst := some 19, op := Op.pick (Operand.tmp 13) (Operand.tmp 18) (Operand.const (Value.bool false)), type := 4, pos := "rest.go:195", after := #[{ on := 1, ground := Ground.data }, { on := 6, ground := Ground.data }], guard := none }) (v := (.bool false)) rfl (by kernel_rfl) (by kernel_rfl) (by kernel_rfl) (fun _ _ _ h => h) (yields_of rfl (fun w => by go_simp)) hS ?_
      try simp only [Act.put, List.setIfInBounds_toArray, List.set_cons_zero, List.set_cons_succ]
      refine wpAnyH_take (i := 8) (oi := { dst := some 20, op := Op.move (Operand.tmp 19), type := 4, pos := "rest.go:195", after := #[{ on := 7, ground := Ground.data }, { on := 1, ground := Ground.chain }], guard := none }) (v := (.bool false)) rfl (by kernel_rfl) (by kernel_rfl) (by kernel_rfl) (fun _ _ _ h => h) (yields_of rfl (fun w => by go_simp)) hS ?_
      try simp only [Act.put, List.setIfInBounds_toArray, List.set_cons_zero, List.set_cons_succ]
      refine wpAnyH_take (i := 9) (oi := { dst := some 21, op := Op.move (Operand.tmp 5), type := 24, pos := "rest.go:195", after := #[{ on := 8, ground := Ground.guard }], guard := some (8, true) }) (v := undef) rfl (by kernel_rfl) (by kernel_rfl) (by kernel_rfl) (fun _ _ _ h => h) (.inr ⟨rfl, rfl⟩) hS ?_
      try simp only [Act.put, List.setIfInBounds_toArray, List.set_cons_zero, List.set_cons_succ]
      refine wpAnyH_take (i := 11) (oi := { dst := some 23, op := Op.move (Operand.tmp 0), type := 43, pos := "rest.go:195", after := #[{ on := 8, ground := Ground.guard }], guard := some (8, true) }) (v := undef) rfl (by kernel_rfl) (by kernel_rfl) (by kernel_rfl) (fun _ _ _ h => h) (.inr ⟨rfl, rfl⟩) hS ?_
      try simp only [Act.put, List.setIfInBounds_toArray, List.set_cons_zero, List.set_cons_succ]
      refine wpAnyH_take (i := 12) (oi := { dst := some 24, op := Op.fieldAddr 62 (Operand.tmp 3) 0, type := 0, pos := "rest.go:195", after := #[{ on := 8, ground := Ground.guard }], guard := some (8, true) }) (v := undef) rfl (by kernel_rfl) (by kernel_rfl) (by kernel_rfl) (fun _ _ _ h => h) (.inr ⟨rfl, rfl⟩) hS ?_
      try simp only [Act.put, List.setIfInBounds_toArray, List.set_cons_zero, List.set_cons_succ]
      refine wpAnyH_take (i := 13) (oi := { dst := some 25, op := Op.load 3 (Operand.tmp 24), type := 3, pos := "rest.go:195", after := #[{ on := 12, ground := Ground.data }, { on := 8, ground := Ground.guard }], guard := some (8, true) }) (v := undef) rfl (by kernel_rfl) (by kernel_rfl) (by kernel_rfl) (fun _ _ _ h => h) (.inr ⟨rfl, rfl⟩) hS ?_
      try simp only [Act.put, List.setIfInBounds_toArray, List.set_cons_zero, List.set_cons_succ]
      refine wpAnyH_take (i := 14) (oi := { dst := some 26, op := Op.indexAddr 43 (Operand.tmp 23) (Operand.tmp 25), type := 0, pos := "rest.go:195", after := #[{ on := 11, ground := Ground.data }, { on := 13, ground := Ground.data }, { on := 8, ground := Ground.guard }], guard := some (8, true) }) (v := undef) rfl (by kernel_rfl) (by kernel_rfl) (by kernel_rfl) (fun _ _ _ h => h) (.inr ⟨rfl, rfl⟩) hS ?_
      try simp only [Act.put, List.setIfInBounds_toArray, List.set_cons_zero, List.set_cons_succ]
      refine wpAnyH_take (i := 15) (oi := { dst := some 27, op := Op.load 23 (Operand.tmp 26), type := 23, pos := "rest.go:195", after := #[{ on := 14, ground := Ground.data }, { on := 8, ground := Ground.guard }], guard := some (8, true) }) (v := undef) rfl (by kernel_rfl) (by kernel_rfl) (by kernel_rfl) (fun _ _ _ h => h) (.inr ⟨rfl, rfl⟩) hS ?_
      try simp only [Act.put, List.setIfInBounds_toArray, List.set_cons_zero, List.set_cons_succ]
      refine wpAnyH_ready (rs := [10]) (by kernel_rfl) (by simp) ?_
      refine AllReadyH.cons (o := { dst := some 22, op := Op.call { callee := Callee.value (Operand.func 11), args := #[Operand.tmp 21], argTypes := #[24] }, type := 23, pos := "rest.go:195", after := #[{ on := 9, ground := Ground.data }, { on := 8, ground := Ground.chain }, { on := 8, ground := Ground.guard }], guard := some (8, true) }) rfl (fun K hK => ?_) AllReadyH.nil
      go_simp
      refine hK.out _ _ hS (fun hS1 => ?_)
      try simp only [Act.put, List.setIfInBounds_toArray, List.set_cons_zero, List.set_cons_succ]
      refine wpAnyH_take (i := 16) (oi := { dst := some 28, op := Op.binOp BinOp.eql 23 (Operand.tmp 22) (Operand.tmp 27) 23, type := 4, pos := "rest.go:195", after := #[{ on := 10, ground := Ground.data }, { on := 15, ground := Ground.data }, { on := 8, ground := Ground.guard }], guard := some (8, true) }) (v := undef) rfl (by kernel_rfl) (by kernel_rfl) (by kernel_rfl) (fun _ _ _ h => h) (.inr ⟨rfl, rfl⟩) hS1 ?_
      try simp only [Act.put, List.setIfInBounds_toArray, List.set_cons_zero, List.set_cons_succ]
      refine wpAnyH_take (i := 17) (oi := { dst := some 29, op := Op.pick (Operand.tmp 20) (Operand.tmp 28) (Operand.const (Value.bool false)), type := 4, pos := "rest.go:195", after := #[{ on := 8, ground := Ground.data }, { on := 16, ground := Ground.data }], guard := none }) (v := Value.bool false) rfl (by kernel_rfl) (by kernel_rfl) (by kernel_rfl) (fun _ _ _ h => h) (yields_of rfl (fun w => by go_simp)) hS1 ?_
      try simp only [Act.put, List.setIfInBounds_toArray, List.set_cons_zero, List.set_cons_succ]
      refine wpAnyH_ready (rs := [18]) (by kernel_rfl) (by simp) ?_
      refine AllReadyH.cons (o := { dst := some 4, op := Op.assign (Operand.tmp 29), type := 4, pos := "rest.go:195", after := #[{ on := 17, ground := Ground.data }, { on := 10, ground := Ground.chain }, { on := 0, ground := Ground.phase }, { on := 1, ground := Ground.phase }, { on := 2, ground := Ground.phase }, { on := 3, ground := Ground.phase }, { on := 4, ground := Ground.phase }, { on := 5, ground := Ground.phase }, { on := 6, ground := Ground.phase }, { on := 7, ground := Ground.phase }, { on := 8, ground := Ground.phase }, { on := 9, ground := Ground.phase }, { on := 10, ground := Ground.phase }, { on := 11, ground := Ground.phase }, { on := 12, ground := Ground.phase }, { on := 13, ground := Ground.phase }, { on := 14, ground := Ground.phase }, { on := 15, ground := Ground.phase }, { on := 16, ground := Ground.phase }, { on := 17, ground := Ground.phase }], guard := none }) rfl (fun K hK => ?_) AllReadyH.nil
      go_simp
      refine hK.out _ _ hS1 (fun hS2 => ?_)
      refine wpAnyH_done (by kernel_rfl) ?_ _
      have E9 := hid (unhid E5).drew
      go_wp2_with fail
      go_ret
      exact ⟨by rw [HRF.out]; rfl, unhid E9⟩
  · have TN := hid (text_no b w1 HBK.out hvk)
    have hrf : r = false := by
      cases r with
      | false => rfl
      | true => exact absurd (HR.out.1 rfl).1 hvk
    have HRF := hid hrf
    clear hvk hrf
    go_wp2_with fail
    refine (unhid TN).mono ?_
    rintro e w5 ⟨rfl, hb5⟩
    have E5 := hid ((unhid E1).trans (hb5.mono hww1))
    clear hb5 TN
    go_wp2_with fail
    refine wp_region_held_drew (S := fun w' => Below w5.heap.size w5 w') (by kernel_rfl) ((Below.refl _ _).drew) (fun hS => ?_)
    refine wpAnyH_take (i := 0) (oi := { dst := some 12, op := Op.move (Operand.tmp 6), type := 4, pos := "rest.go:195", after := #[], guard := none }) (v := (.bool false)) rfl (by kernel_rfl) (by kernel_rfl) (by kernel_rfl) (fun _ _ _ h => h) (yields_of rfl (fun w => by go_simp)) hS ?_
    try simp only [Act.put, List.setIfInBounds_toArray, List.set_cons_zero, List.set_cons_succ]
    refine wpAnyH_take (i := 1) (oi := { dst := some 13, op := Op.move (Operand.tmp 12), type := 4, pos := "rest.go:195", after := #[{ on := 0, ground := Ground.data }], guard := none }) (v := (.bool false)) rfl (by kernel_rfl) (by kernel_rfl) (by kernel_rfl) (fun _ _ _ h => h) (yields_of rfl (fun w => by go_simp)) hS ?_
    try simp only [Act.put, List.setIfInBounds_toArray, List.set_cons_zero, List.set_cons_succ]
    refine wpAnyH_take (i := 2) (oi := { dst := some 14, op := Op.fieldAddr 62 (Operand.tmp 3) 0, type := 0, pos := "rest.go:195", after := #[{ on := 1, ground := Ground.guard }], guard := some (1, true) }) (v := undef) rfl (by kernel_rfl) (by kernel_rfl) (by kernel_rfl) (fun _ _ _ h => h) (.inr ⟨rfl, rfl⟩) hS ?_
    try simp only [Act.put, List.setIfInBounds_toArray, List.set_cons_zero, List.set_cons_succ]
    refine wpAnyH_take (i := 3) (oi := { dst := some 15, op := Op.load 3 (Operand.tmp 14), type := 3, pos := "rest.go:195", after := #[{ on := 2, ground := Ground.data }, { on := 1, ground := Ground.guard }], guard := some (1, true) }) (v := undef) rfl (by kernel_rfl) (by kernel_rfl) (by kernel_rfl) (fun _ _ _ h => h) (.inr ⟨rfl, rfl⟩) hS ?_
    try simp only [Act.put, List.setIfInBounds_toArray, List.set_cons_zero, List.set_cons_succ]
    refine wpAnyH_take (i := 4) (oi := { dst := some 16, op := Op.move (Operand.tmp 0), type := 43, pos := "rest.go:195", after := #[{ on := 1, ground := Ground.guard }], guard := some (1, true) }) (v := undef) rfl (by kernel_rfl) (by kernel_rfl) (by kernel_rfl) (fun _ _ _ h => h) (.inr ⟨rfl, rfl⟩) hS ?_
    try simp only [Act.put, List.setIfInBounds_toArray, List.set_cons_zero, List.set_cons_succ]
    refine wpAnyH_take (i := 5) (oi := { dst := some 17, op := Op.call { callee := Callee.builtin Builtin.len, args := #[Operand.tmp 16], argTypes := #[43] }, type := 3, pos := "rest.go:195", after := #[{ on := 4, ground := Ground.data }, { on := 1, ground := Ground.guard }], guard := some (1, true) }) (v := undef) rfl (by kernel_rfl) (by kernel_rfl) (by kernel_rfl) (fun _ _ _ h => h) (.inr ⟨rfl, rfl⟩) hS ?_
    try simp only [Act.put, List.setIfInBounds_toArray, List.set_cons_zero, List.set_cons_succ]
    refine wpAnyH_take (i := 6) (oi := { dst := some 18, op := Op.binOp BinOp.lss 3 (Operand.tmp 15) (Operand.tmp 17) 3, type := 4, pos := "rest.go:195", after := #[{ on := 3, ground := Ground.data }, { on := 5, ground := Ground.data }, { on := 1, ground := Ground.guard }], guard := some (1, true) }) (v := undef) rfl (by kernel_rfl) (by kernel_rfl) (by kernel_rfl) (fun _ _ _ h => h) (.inr ⟨rfl, rfl⟩) hS ?_
    try simp only [Act.put, List.setIfInBounds_toArray, List.set_cons_zero, List.set_cons_succ]
    refine wpAnyH_take (i := 7) (oi := { dst := some 19, op := Op.pick (Operand.tmp 13) (Operand.tmp 18) (Operand.const (Value.bool false)), type := 4, pos := "rest.go:195", after := #[{ on := 1, ground := Ground.data }, { on := 6, ground := Ground.data }], guard := none }) (v := Value.bool false) rfl (by kernel_rfl) (by kernel_rfl) (by kernel_rfl) (fun _ _ _ h => h) (yields_of rfl (fun w => by go_simp)) hS ?_
    try simp only [Act.put, List.setIfInBounds_toArray, List.set_cons_zero, List.set_cons_succ]
    refine wpAnyH_take (i := 8) (oi := { dst := some 20, op := Op.move (Operand.tmp 19), type := 4, pos := "rest.go:195", after := #[{ on := 7, ground := Ground.data }, { on := 1, ground := Ground.chain }], guard := none }) (v := Value.bool false) rfl (by kernel_rfl) (by kernel_rfl) (by kernel_rfl) (fun _ _ _ h => h) (yields_of rfl (fun w => by go_simp)) hS ?_
    try simp only [Act.put, List.setIfInBounds_toArray, List.set_cons_zero, List.set_cons_succ]
    refine wpAnyH_take (i := 9) (oi := { dst := some 21, op := Op.move (Operand.tmp 5), type := 24, pos := "rest.go:195", after := #[{ on := 8, ground := Ground.guard }], guard := some (8, true) }) (v := undef) rfl (by kernel_rfl) (by kernel_rfl) (by kernel_rfl) (fun _ _ _ h => h) (.inr ⟨rfl, rfl⟩) hS ?_
    try simp only [Act.put, List.setIfInBounds_toArray, List.set_cons_zero, List.set_cons_succ]
    refine wpAnyH_take (i := 11) (oi := { dst := some 23, op := Op.move (Operand.tmp 0), type := 43, pos := "rest.go:195", after := #[{ on := 8, ground := Ground.guard }], guard := some (8, true) }) (v := undef) rfl (by kernel_rfl) (by kernel_rfl) (by kernel_rfl) (fun _ _ _ h => h) (.inr ⟨rfl, rfl⟩) hS ?_
    try simp only [Act.put, List.setIfInBounds_toArray, List.set_cons_zero, List.set_cons_succ]
    refine wpAnyH_take (i := 12) (oi := { dst := some 24, op := Op.fieldAddr 62 (Operand.tmp 3) 0, type := 0, pos := "rest.go:195", after := #[{ on := 8, ground := Ground.guard }], guard := some (8, true) }) (v := undef) rfl (by kernel_rfl) (by kernel_rfl) (by kernel_rfl) (fun _ _ _ h => h) (.inr ⟨rfl, rfl⟩) hS ?_
    try simp only [Act.put, List.setIfInBounds_toArray, List.set_cons_zero, List.set_cons_succ]
    refine wpAnyH_take (i := 13) (oi := { dst := some 25, op := Op.load 3 (Operand.tmp 24), type := 3, pos := "rest.go:195", after := #[{ on := 12, ground := Ground.data }, { on := 8, ground := Ground.guard }], guard := some (8, true) }) (v := undef) rfl (by kernel_rfl) (by kernel_rfl) (by kernel_rfl) (fun _ _ _ h => h) (.inr ⟨rfl, rfl⟩) hS ?_
    try simp only [Act.put, List.setIfInBounds_toArray, List.set_cons_zero, List.set_cons_succ]
    refine wpAnyH_take (i := 14) (oi := { dst := some 26, op := Op.indexAddr 43 (Operand.tmp 23) (Operand.tmp 25), type := 0, pos := "rest.go:195", after := #[{ on := 11, ground := Ground.data }, { on := 13, ground := Ground.data }, { on := 8, ground := Ground.guard }], guard := some (8, true) }) (v := undef) rfl (by kernel_rfl) (by kernel_rfl) (by kernel_rfl) (fun _ _ _ h => h) (.inr ⟨rfl, rfl⟩) hS ?_
    try simp only [Act.put, List.setIfInBounds_toArray, List.set_cons_zero, List.set_cons_succ]
    refine wpAnyH_take (i := 15) (oi := { dst := some 27, op := Op.load 23 (Operand.tmp 26), type := 23, pos := "rest.go:195", after := #[{ on := 14, ground := Ground.data }, { on := 8, ground := Ground.guard }], guard := some (8, true) }) (v := undef) rfl (by kernel_rfl) (by kernel_rfl) (by kernel_rfl) (fun _ _ _ h => h) (.inr ⟨rfl, rfl⟩) hS ?_
    try simp only [Act.put, List.setIfInBounds_toArray, List.set_cons_zero, List.set_cons_succ]
    refine wpAnyH_ready (rs := [10]) (by kernel_rfl) (by simp) ?_
    refine AllReadyH.cons (o := { dst := some 22, op := Op.call { callee := Callee.value (Operand.func 11), args := #[Operand.tmp 21], argTypes := #[24] }, type := 23, pos := "rest.go:195", after := #[{ on := 9, ground := Ground.data }, { on := 8, ground := Ground.chain }, { on := 8, ground := Ground.guard }], guard := some (8, true) }) rfl (fun K hK => ?_) AllReadyH.nil
    go_simp
    refine hK.out _ _ hS (fun hS1 => ?_)
    try simp only [Act.put, List.setIfInBounds_toArray, List.set_cons_zero, List.set_cons_succ]
    refine wpAnyH_take (i := 16) (oi := { dst := some 28, op := Op.binOp BinOp.eql 23 (Operand.tmp 22) (Operand.tmp 27) 23, type := 4, pos := "rest.go:195", after := #[{ on := 10, ground := Ground.data }, { on := 15, ground := Ground.data }, { on := 8, ground := Ground.guard }], guard := some (8, true) }) (v := undef) rfl (by kernel_rfl) (by kernel_rfl) (by kernel_rfl) (fun _ _ _ h => h) (.inr ⟨rfl, rfl⟩) hS1 ?_
    try simp only [Act.put, List.setIfInBounds_toArray, List.set_cons_zero, List.set_cons_succ]
    refine wpAnyH_take (i := 17) (oi := { dst := some 29, op := Op.pick (Operand.tmp 20) (Operand.tmp 28) (Operand.const (Value.bool false)), type := 4, pos := "rest.go:195", after := #[{ on := 8, ground := Ground.data }, { on := 16, ground := Ground.data }], guard := none }) (v := Value.bool false) rfl (by kernel_rfl) (by kernel_rfl) (by kernel_rfl) (fun _ _ _ h => h) (yields_of rfl (fun w => by go_simp)) hS1 ?_
    try simp only [Act.put, List.setIfInBounds_toArray, List.set_cons_zero, List.set_cons_succ]
    refine wpAnyH_ready (rs := [18]) (by kernel_rfl) (by simp) ?_
    refine AllReadyH.cons (o := { dst := some 4, op := Op.assign (Operand.tmp 29), type := 4, pos := "rest.go:195", after := #[{ on := 17, ground := Ground.data }, { on := 10, ground := Ground.chain }, { on := 0, ground := Ground.phase }, { on := 1, ground := Ground.phase }, { on := 2, ground := Ground.phase }, { on := 3, ground := Ground.phase }, { on := 4, ground := Ground.phase }, { on := 5, ground := Ground.phase }, { on := 6, ground := Ground.phase }, { on := 7, ground := Ground.phase }, { on := 8, ground := Ground.phase }, { on := 9, ground := Ground.phase }, { on := 10, ground := Ground.phase }, { on := 11, ground := Ground.phase }, { on := 12, ground := Ground.phase }, { on := 13, ground := Ground.phase }, { on := 14, ground := Ground.phase }, { on := 15, ground := Ground.phase }, { on := 16, ground := Ground.phase }, { on := 17, ground := Ground.phase }], guard := none }) rfl (fun K hK => ?_) AllReadyH.nil
    go_simp
    refine hK.out _ _ hS1 (fun hS2 => ?_)
    refine wpAnyH_done (by kernel_rfl) ?_ _
    have E9 := hid (unhid E5).drew
    go_wp2_with fail
    go_ret
    exact ⟨by rw [HRF.out]; rfl, unhid E9⟩
def cntB (Vs : List (List Int)) (bs : List Bd) (i : Nat) (b : Bd) : Prop := okB Vs b ∧ ∀ k < i, ∀ c, bs[k]? = some c → c.who = b.who → ¬ okB Vs c
set_option maxHeartbeats 4000000 in
set_option maxRecDepth 100000 in
theorem counts_any (Vs : List (List Int)) (bs : List Bd) (A0 A1 : Option Addr) (n0 c0 n1 c1 D i : Nat) (b : Bd) (w : World) (hV : Row w D 32 A0 n0 (Vs.flatten.map (Value.int .u8))) (hVl : Vs.length = n0) (hV2 : ∀ l ∈ Vs, l.length = 32)
    (hB : Row w D 34 A1 n1 (bs.map bc).flatten) (hB2 : ∀ b ∈ bs, BdOk b) (hBl : bs.length = n1) (hD : D ≤ w.heap.size) (hn1 : n1 ≤ 100) (hb : bs[i]? = some b) (r : Bool) (hr : r = true ↔ cntB Vs bs i b) :
    Calls Tryd.prog 38 #[.slice A0 n0 c0, .slice A1 n1 c1, .int .i64 (i : Int)] w fun e w' => e = .returned (.bool r) ∧ Below w.heap.size w w' := by
  have hi : i < n1 := by rw [← hBl]; exact (List.getElem?_eq_some_iff.1 hb).1
  have hbk := hB2 b (List.mem_of_getElem? hb)
  have HV := hid hV; have HVL := hid hVl; have HV2 := hid hV2; have HBR := hid hB; have HBL := hid hBl; have HB2 := hid hB2; have HR := hid hr
  have HS := hid (fun b (h : b ∈ bs) => (hB2 b h).1)
  obtain ⟨gb, ob, rfl, hgb, HRG⟩ := bids_at hB HS.out hi hb
  have HLb := hid (bc_len hbk.1)
  have HBK := hid hbk
  have i1 : (0 : Int) ≤ (i : Int) := by omega
  have i2 : (i : Int) < (n1 : Int) := by omega
  clear hV hVl hV2 hB hBl hB2 hr hb hbk
  go_enter Tryd.func38, Tryd.ntmps38
  go_wp2_with (with_reducible refine halt_op (some 14) (.load _ _) (fun K hK => ?_))
  refine go_on hK ?_; clear hK
  refine load_mid bidT rfl (.tmp 13) rfl rfl (unhid HRG) HLb.out ?_
  by_cases hvk : vowOk b
  · obtain ⟨x, hx⟩ := Int.eq_ofNat_of_zero_le hvk.1
    have TY := hid (text_yes b w HBK.out hvk)
    have HVK := hid hvk; have HX := hid hx
    clear hvk hx
    go_wp2_with fail
    refine (unhid TY).mono ?_
    rintro e w5 ⟨A5, c5, rfl, r5, hb5⟩
    have E5 := hid hb5
    have CS := hid fun W (hW : Below w5.heap.size w5 W) => rsum_vow b A5 c5 w5 W HBK.out HVK.out r5 hW
    have CW : Hid (∀ W, Below w5.heap.size w5 W → W.cell? ⟨gb, ob + i * 34, none⟩ = some (.int .i64 (x : Int))) := hid fun W hW => by
      have h := rng34 HRG hgb (((unhid E5).trans (hW.mono (unhid E5).size)).mono hD) 0 (.int .i64 b.who) rfl
      rw [HX.out] at h; exact h
    clear r5 hb5 TY
    go_wp2_with fail
    by_cases hxn : x < n0
    · obtain ⟨gv, ov, dv, rfl, hgv, hdl, hgd, hrg⟩ := vow_at ((unhid HV).below ((unhid E5).mono hD)) HVL.out HV2.out hxn
      have hgv5 : gv < w5.heap.size := by have := (unhid E5).size; omega
      have CV := hid fun W (hW : Below w5.heap.size w5 W) => rng32 hrg hgv5 hW
      have HDL := hid hdl; have HGD := hid hgd
      have x1 : (0 : Int) ≤ (x : Int) := by omega
      have x2 : (x : Int) < (n0 : Int) := by omega
      clear hdl hgd hrg
      by_cases hne : up (vowB b) = dv
      · have HNE : Hid (false = decide (up (vowB b) ≠ dv)) := hid (by simp [hne])
        have hok : okB Vs b := ⟨HVK.out, by rw [HX.out, HVL.out]; omega, by rw [HX.out]; show Vs.getD x [] = _; rw [HGD.out, hne]⟩
        have HOK := hid hok
        clear hne hok
        refine wp_region_held_drew (S := fun w' => Below w5.heap.size w5 w') (by kernel_rfl) ((Below.refl _ _).drew) (fun hS => ?_)
        refine wpAnyH_take (i := 0) (oi := { dst := some 18, op := Op.move (Operand.tmp 8), type := 4, pos := "rest.go:181", after := #[], guard := none }) (v := (.bool true)) rfl (by kernel_rfl) (by kernel_rfl) (by kernel_rfl) (fun _ _ _ h => h) (yields_of rfl (fun w => by go_simp)) hS ?_
        try simp only [Act.put, List.setIfInBounds_toArray, List.set_cons_zero, List.set_cons_succ]
        refine wpAnyH_take (i := 1) (oi := { dst := some 19, op := Op.unOp UnOp.not 4 (Operand.tmp 18), type := 4, pos := "rest.go:181", after := #[{ on := 0, ground := Ground.data }], guard := none }) (v := (.bool false)) rfl (by kernel_rfl) (by kernel_rfl) (by kernel_rfl) (fun _ _ _ h => h) (yields_of rfl (fun w => by go_simp)) hS ?_
        try simp only [Act.put, List.setIfInBounds_toArray, List.set_cons_zero, List.set_cons_succ]
        refine wpAnyH_take (i := 2) (oi := { dst := some 20, op := Op.move (Operand.tmp 19), type := 4, pos := "rest.go:181", after := #[{ on := 1, ground := Ground.data }], guard := none }) (v := (.bool false)) rfl (by kernel_rfl) (by kernel_rfl) (by kernel_rfl) (fun _ _ _ h => h) (yields_of rfl (fun w => by go_simp)) hS ?_
        try simp only [Act.put, List.setIfInBounds_toArray, List.set_cons_zero, List.set_cons_succ]
        refine wpAnyH_take (i := 3) (oi := { dst := some 21, op := Op.move (Operand.tmp 1), type := 54, pos := "rest.go:181", after := #[{ on := 2, ground := Ground.guard }], guard := some (2, false) }) (v := (.slice (some ⟨gb, ob, none⟩) n1 c1)) rfl (by kernel_rfl) (by kernel_rfl) (by kernel_rfl) (fun _ _ _ h => h) (yields_of rfl (fun w => by go_simp)) hS ?_
        try simp only [Act.put, List.setIfInBounds_toArray, List.set_cons_zero, List.set_cons_succ]
        refine wpAnyH_take (i := 4) (oi := { dst := some 22, op := Op.move (Operand.tmp 2), type := 3, pos := "rest.go:181", after := #[{ on := 2, ground := Ground.guard }], guard := some (2, false) }) (v := (.int .i64 (i : Int))) rfl (by kernel_rfl) (by kernel_rfl) (by kernel_rfl) (fun _ _ _ h => h) (yields_of rfl (fun w => by go_simp)) hS ?_
        try simp only [Act.put, List.setIfInBounds_toArray, List.set_cons_zero, List.set_cons_succ]
        refine wpAnyH_take (i := 5) (oi := { dst := some 23, op := Op.indexAddr 54 (Operand.tmp 21) (Operand.tmp 22), type := 0, pos := "rest.go:181", after := #[{ on := 3, ground := Ground.data }, { on := 4, ground := Ground.data }, { on := 2, ground := Ground.guard }], guard := some (2, false) }) (v := (.pointer (some ⟨gb, ob + i * 34, none⟩))) rfl (by kernel_rfl) (by kernel_rfl) (by kernel_rfl) (fun _ _ _ h => h) (yields_of rfl (fun w => by go_simp)) hS ?_
        try simp only [Act.put, List.setIfInBounds_toArray, List.set_cons_zero, List.set_cons_succ]
        refine wpAnyH_take (i := 6) (oi := { dst := some 24, op := Op.fieldAddr 62 (Operand.tmp 23) 0, type := 0, pos := "rest.go:181", after := #[{ on := 5, ground := Ground.data }, { on := 2, ground := Ground.guard }], guard := some (2, false) }) (v := (.pointer (some ⟨gb, ob + i * 34, none⟩))) rfl (by kernel_rfl) (by kernel_rfl) (by kernel_rfl) (fun _ _ _ h => h) (yields_of rfl (fun w => by go_simp)) hS ?_
        try simp only [Act.put, List.setIfInBounds_toArray, List.set_cons_zero, List.set_cons_succ]
        refine wpAnyH_take (i := 7) (oi := { dst := some 25, op := Op.load 3 (Operand.tmp 24), type := 3, pos := "rest.go:181", after := #[{ on := 6, ground := Ground.data }, { on := 2, ground := Ground.guard }], guard := some (2, false) }) (v := (.int .i64 (x : Int))) rfl (by kernel_rfl) (by kernel_rfl) (by kernel_rfl) (fun _ _ _ h => h) (.inl ⟨rfl, fun w h => by have e := CW.out w h; go_simp⟩) hS ?_
        try simp only [Act.put, List.setIfInBounds_toArray, List.set_cons_zero, List.set_cons_succ]
        refine wpAnyH_take (i := 8) (oi := { dst := some 26, op := Op.move (Operand.tmp 0), type := 43, pos := "rest.go:181", after := #[{ on := 2, ground := Ground.guard }], guard := some (2, false) }) (v := (.slice (some ⟨gv, ov, none⟩) n0 c0)) rfl (by kernel_rfl) (by kernel_rfl) (by kernel_rfl) (fun _ _ _ h => h) (yields_of rfl (fun w => by go_simp)) hS ?_
        try simp only [Act.put, List.setIfInBounds_toArray, List.set_cons_zero, List.set_cons_succ]
        refine wpAnyH_take (i := 9) (oi := { dst := some 27, op := Op.call { callee := Callee.builtin Builtin.len, args := #[Operand.tmp 26], argTypes := #[43] }, type := 3, pos := "rest.go:181", after := #[{ on := 8, ground := Ground.data }, { on := 2, ground := Ground.guard }], guard := some (2, false) }) (v := (.int .i64 (n0 : Int))) rfl (by kernel_rfl) (by kernel_rfl) (by kernel_rfl) (fun _ _ _ h => h) (yields_of rfl (fun w => by go_simp)) hS ?_
        try simp only [Act.put, List.setIfInBounds_toArray, List.set_cons_zero, List.set_cons_succ]
        refine wpAnyH_take (i := 10) (oi := { dst := some 28, op := Op.binOp BinOp.geq 3 (Operand.tmp 25) (Operand.tmp 27) 3, type := 4, pos := "rest.go:181", after := #[{ on := 7, ground := Ground.data }, { on := 9, ground := Ground.data }, { on := 2, ground := Ground.guard }], guard := some (2, false) }) (v := (.bool false)) rfl (by kernel_rfl) (by kernel_rfl) (by kernel_rfl) (fun _ _ _ h => h) (yields_of rfl (fun w => by go_simp)) hS ?_
        try simp only [Act.put, List.setIfInBounds_toArray, List.set_cons_zero, List.set_cons_succ]
        refine wpAnyH_take (i := 11) (oi := { dst := some 29, op := Op.pick (Operand.tmp 20) (Operand.const (Value.bool true)) (Operand.tmp 28), type := 4, pos := "rest.go:181", after := #[{ on := 2, ground := Ground.data }, { on := 10, ground := Ground.data }], guard := none }) (v := (.bool false)) rfl (by kernel_rfl) (by kernel_rfl) (by kernel_rfl) (fun _ _ _ h => h) (yields_of rfl (fun w => by go_simp)) hS ?_
        try simp only [Act.put, List.setIfInBounds_toArray, List.set_cons_zero, List.set_cons_succ]
        refine wpAnyH_take (i := 12) (oi := { dst := some 30, op := Op.move (Operand.tmp 29), type := 4, pos := "rest.go:181", after := #[{ on := 11, ground := Ground.data }, { on := 2, ground := Ground.chain }], guard := none }) (v := (.bool false)) rfl (by kernel_rfl) (by kernel_rfl) (by kernel_rfl) (fun _ _ _ h => h) (yields_of rfl (fun w => by go_simp)) hS ?_
        try simp only [Act.put, List.setIfInBounds_toArray, List.set_cons_zero, List.set_cons_succ]
        refine wpAnyH_take (i := 13) (oi := { dst := some 31, op := Op.move (Operand.tmp 7), type := 24, pos := "rest.go:181", after := #[{ on := 12, ground := Ground.guard }], guard := some (12, false) }) (v := (.slice A5 45 c5)) rfl (by kernel_rfl) (by kernel_rfl) (by kernel_rfl) (fun _ _ _ h => h) (yields_of rfl (fun w => by go_simp)) hS ?_
        try simp only [Act.put, List.setIfInBounds_toArray, List.set_cons_zero, List.set_cons_succ]
        refine wpAnyH_take (i := 15) (oi := { dst := some 33, op := Op.move (Operand.tmp 0), type := 43, pos := "rest.go:181", after := #[{ on := 12, ground := Ground.guard }], guard := some (12, false) }) (v := (.slice (some ⟨gv, ov, none⟩) n0 c0)) rfl (by kernel_rfl) (by kernel_rfl) (by kernel_rfl) (fun _ _ _ h => h) (yields_of rfl (fun w => by go_simp)) hS ?_
        try simp only [Act.put, List.setIfInBounds_toArray, List.set_cons_zero, List.set_cons_succ]
        refine wpAnyH_take (i := 16) (oi := { dst := some 34, op := Op.move (Operand.tmp 1), type := 54, pos := "rest.go:181", after := #[{ on := 12, ground := Ground.guard }], guard := some (12, false) }) (v := (.slice (some ⟨gb, ob, none⟩) n1 c1)) rfl (by kernel_rfl) (by kernel_rfl) (by kernel_rfl) (fun _ _ _ h => h) (yields_of rfl (fun w => by go_simp)) hS ?_
        try simp only [Act.put, List.setIfInBounds_toArray, List.set_cons_zero, List.set_cons_succ]
        refine wpAnyH_take (i := 17) (oi := { dst := some 35, op := Op.move (Operand.tmp 2), type := 3, pos := "rest.go:181", after := #[{ on := 12, ground := Ground.guard }], guard := some (12, false) }) (v := (.int .i64 (i : Int))) rfl (by kernel_rfl) (by kernel_rfl) (by kernel_rfl) (fun _ _ _ h => h) (yields_of rfl (fun w => by go_simp)) hS ?_
        try simp only [Act.put, List.setIfInBounds_toArray, List.set_cons_zero, List.set_cons_succ]
        refine wpAnyH_take (i := 18) (oi := { dst := some 36, op := Op.indexAddr 54 (Operand.tmp 34) (Operand.tmp 35), type := 0, pos := "rest.go:181", after := #[{ on := 16, ground := Ground.data }, { on := 17, ground := Ground.data }, { on := 12, ground := Ground.guard }], guard := some (12, false) }) (v := (.pointer (some ⟨gb, ob + i * 34, none⟩))) rfl (by kernel_rfl) (by kernel_rfl) (by kernel_rfl) (fun _ _ _ h => h) (yields_of rfl (fun w => by go_simp)) hS ?_
        try simp only [Act.put, List.setIfInBounds_toArray, List.set_cons_zero, List.set_cons_succ]
        refine wpAnyH_take (i := 19) (oi := { dst := some 37, op := Op.fieldAddr 62 (Operand.tmp 36) 0, type := 0, pos := "rest.go:181", after := #[{ on := 18, ground := Ground.data }, { on := 12, ground := Ground.guard }], guard := some (12, false) }) (v := (.pointer (some ⟨gb, ob + i * 34, none⟩))) rfl (by kernel_rfl) (by kernel_rfl) (by kernel_rfl) (fun _ _ _ h => h) (yields_of rfl (fun w => by go_simp)) hS ?_
        try simp only [Act.put, List.setIfInBounds_toArray, List.set_cons_zero, List.set_cons_succ]
        refine wpAnyH_take (i := 20) (oi := { dst := some 38, op := Op.load 3 (Operand.tmp 37), type := 3, pos := "rest.go:181", after := #[{ on := 19, ground := Ground.data }, { on := 12, ground := Ground.guard }], guard := some (12, false) }) (v := (.int .i64 (x : Int))) rfl (by kernel_rfl) (by kernel_rfl) (by kernel_rfl) (fun _ _ _ h => h) (.inl ⟨rfl, fun w h => by have e := CW.out w h; go_simp⟩) hS ?_
        try simp only [Act.put, List.setIfInBounds_toArray, List.set_cons_zero, List.set_cons_succ]
        refine wpAnyH_take (i := 21) (oi := { dst := some 39, op := Op.indexAddr 43 (Operand.tmp 33) (Operand.tmp 38), type := 0, pos := "rest.go:181", after := #[{ on := 15, ground := Ground.data }, { on := 20, ground := Ground.data }, { on := 12, ground := Ground.guard }], guard := some (12, false) }) (v := (.pointer (some ⟨gv, ov + x * 32, none⟩))) rfl (by kernel_rfl) (by kernel_rfl) (by kernel_rfl) (fun _ _ _ h => h) (yields_of rfl (fun w => by go_simp)) hS ?_
        try simp only [Act.put, List.setIfInBounds_toArray, List.set_cons_zero, List.set_cons_succ]
        refine wpAnyH_take (i := 22) (oi := { dst := some 40, op := Op.load 23 (Operand.tmp 39), type := 23, pos := "rest.go:181", after := #[{ on := 21, ground := Ground.data }, { on := 12, ground := Ground.guard }], guard := some (12, false) }) (v := (.agg (cellsOf .u8 dv))) rfl (by kernel_rfl) (by kernel_rfl) (by kernel_rfl) (fun _ _ _ h => h) (yields_load digT rfl (.tmp 39) rfl rfl HDL.out (fun w h => CV.out w h)) hS ?_
        try simp only [Act.put, List.setIfInBounds_toArray, List.set_cons_zero, List.set_cons_succ]
        refine wpAnyH_ready (rs := [14]) (by kernel_rfl) (by simp) ?_
        refine AllReadyH.cons (o := { dst := some 32, op := Op.call { callee := Callee.value (Operand.func 11), args := #[Operand.tmp 31], argTypes := #[24] }, type := 23, pos := "rest.go:181", after := #[{ on := 13, ground := Ground.data }, { on := 12, ground := Ground.chain }, { on := 12, ground := Ground.guard }], guard := some (12, false) }) rfl (fun K hK => ?_) AllReadyH.nil
        go_simp
        refine (unhid CS _ hS).mono ?_
        rintro e wq1 ⟨rfl, hb1⟩
        go_wp2_with fail
        refine hK.out _ _ hb1 (fun hS1 => ?_)
        try simp only [Act.put, List.setIfInBounds_toArray, List.set_cons_zero, List.set_cons_succ]
        refine wpAnyH_take (i := 23) (oi := { dst := some 41, op := Op.binOp BinOp.neq 23 (Operand.tmp 32) (Operand.tmp 40) 23, type := 4, pos := "rest.go:181", after := #[{ on := 14, ground := Ground.data }, { on := 22, ground := Ground.data }, { on := 12, ground := Ground.guard }], guard := some (12, false) }) (v := (.bool false)) rfl (by kernel_rfl) (by kernel_rfl) (by kernel_rfl) (fun _ _ _ h => h) (yields_neqD digT noGuardD rfl (.tmp 32) (.tmp 40) 23 rfl rfl rfl (sum_len_u _) HDL.out HNE.out) hS1 ?_
        try simp only [Act.put, List.setIfInBounds_toArray, List.set_cons_zero, List.set_cons_succ]
        refine wpAnyH_take (i := 24) (oi := { dst := some 42, op := Op.pick (Operand.tmp 30) (Operand.const (Value.bool true)) (Operand.tmp 41), type := 4, pos := "rest.go:181", after := #[{ on := 12, ground := Ground.data }, { on := 23, ground := Ground.data }], guard := none }) (v := (.bool false)) rfl (by kernel_rfl) (by kernel_rfl) (by kernel_rfl) (fun _ _ _ h => h) (yields_of rfl (fun w => by go_simp)) hS1 ?_
        refine wpAnyH_done (by kernel_rfl) ?_ _
        have E9 := hid ((unhid E5).trans (hb1.mono (unhid E5).size))
        clear hb1 CS CW CV HNE E5
        go_wp2_with fail
        go_loopw [9] (fun v9 wr => ∃ j : Nat, j ≤ i ∧ v9 = .int .i64 j ∧ Hid (∀ k < j, ∀ c, bs[k]? = some c → c.who = b.who → ¬ okB Vs c) ∧ Hid (Below w.heap.size w wr)) (fun v9 _ => i - (intOf v9).toNat)
        case atStart => exact ⟨0, Nat.zero_le _, rfl, hid (fun k h => absurd h (Nat.not_lt_zero _)), E9⟩
        case round =>
          obtain ⟨j, hj, rfl, HN, HB⟩ := hrel
          by_cases hji : j < i
          · obtain ⟨d, hd⟩ : ∃ d, bs[j]? = some d := ⟨_, List.getElem?_eq_getElem (by rw [HBL.out]; omega)⟩
            have hdk := HB2.out d (List.mem_of_getElem? hd)
            obtain ⟨g', o', ea, _, HRJ⟩ := bids_at ((unhid HBR).below ((unhid HB).mono hD)) HS.out (show j < n1 by omega) hd
            injection ea with ea
            injection ea with ea1 ea2
            subst ea1 ea2
            have HLd := hid (bc_len hdk.1)
            have HDK := hid hdk; have HDI := hid hd
            obtain ⟨wq, hwq⟩ : ∃ wq : World, wq = wr := ⟨_, rfl⟩
            rw [← hwq] at HRJ HB
            rw [← hwq]
            have hsq := (unhid HB).size
            have hgq : gb < wq.heap.size := by omega
            have CRJ := hid fun W (hW : Below wq.heap.size wq W) => rng34 HRJ hgq hW
            have CJ : Hid (∀ W, Below wq.heap.size wq W → W.cell? ⟨gb, ob + j * 34, none⟩ = some (.int .i64 d.who) ∧ W.cell? ⟨gb, ob + i * 34, none⟩ = some (.int .i64 b.who)) := hid fun W hW =>
              ⟨rng34 HRJ hgq hW 0 (.int .i64 d.who) rfl, rng34 HRG hgb (((unhid HB).trans (hW.mono hsq)).mono hD) 0 (.int .i64 b.who) rfl⟩
            have j1 : (0 : Int) ≤ (j : Int) := by omega
            have j2 : (j : Int) < (n1 : Int) := by omega
            have j3 : (j : Int) < (i : Int) := by omega
            clear hwq hd hdk
            go_wp2_with fail
            by_cases hw : d.who = b.who
            · have HW := hid hw
              by_cases hok : okB Vs d
              · have CC := hid fun W (hW : Below wq.heap.size wq W) => (counts1_any Vs d (some ⟨gv, ov, none⟩) n0 c0 D W ((unhid HV).below (((unhid HB).trans (hW.mono hsq)).mono hD)) HVL.out HV2.out (Nat.le_trans hD (Nat.le_trans hsq hW.size)) HDK.out true ⟨fun _ => hok, fun _ => rfl⟩).mono fun e w' h => (⟨h.1, hW.trans (h.2.mono hW.size)⟩ : e = .returned (.bool true) ∧ Below wq.heap.size wq w')
                have hrf : r = false := by
                  cases r with
                  | false => rfl
                  | true => exact absurd hok ((HR.out.1 rfl).2 j hji d HDI.out hw)
                have HRF := hid hrf
                clear hrf hok
                refine wp_region_held_drew (S := fun w' => Below wq.heap.size wq w') (by kernel_rfl) ((Below.refl _ _).drew) (fun hS => ?_)
                refine wpAnyH_take (i := 0) (oi := { dst := some 48, op := Op.move (Operand.tmp 1), type := 54, pos := "rest.go:185", after := #[], guard := none }) (v := (.slice (some ⟨gb, ob, none⟩) n1 c1)) rfl (by kernel_rfl) (by kernel_rfl) (by kernel_rfl) (fun _ _ _ h => h) (yields_of rfl (fun w => by go_simp)) hS ?_
                try simp only [Act.put, List.setIfInBounds_toArray, List.set_cons_zero, List.set_cons_succ]
                refine wpAnyH_take (i := 1) (oi := { dst := some 49, op := Op.move (Operand.tmp 9), type := 3, pos := "rest.go:185", after := #[], guard := none }) (v := (.int .i64 (j : Int))) rfl (by kernel_rfl) (by kernel_rfl) (by kernel_rfl) (fun _ _ _ h => h) (yields_of rfl (fun w => by go_simp)) hS ?_
                try simp only [Act.put, List.setIfInBounds_toArray, List.set_cons_zero, List.set_cons_succ]
                refine wpAnyH_take (i := 2) (oi := { dst := some 50, op := Op.indexAddr 54 (Operand.tmp 48) (Operand.tmp 49), type := 0, pos := "rest.go:185", after := #[{ on := 0, ground := Ground.data }, { on := 1, ground := Ground.data }], guard := none }) (v := (.pointer (some ⟨gb, ob + j * 34, none⟩))) rfl (by kernel_rfl) (by kernel_rfl) (by kernel_rfl) (fun _ _ _ h => h) (yields_of rfl (fun w => by go_simp)) hS ?_
                try simp only [Act.put, List.setIfInBounds_toArray, List.set_cons_zero, List.set_cons_succ]
                refine wpAnyH_take (i := 3) (oi := { dst := some 51, op := Op.fieldAddr 62 (Operand.tmp 50) 0, type := 0, pos := "rest.go:185", after := #[{ on := 2, ground := Ground.data }], guard := none }) (v := (.pointer (some ⟨gb, ob + j * 34, none⟩))) rfl (by kernel_rfl) (by kernel_rfl) (by kernel_rfl) (fun _ _ _ h => h) (yields_of rfl (fun w => by go_simp)) hS ?_
                try simp only [Act.put, List.setIfInBounds_toArray, List.set_cons_zero, List.set_cons_succ]
                refine wpAnyH_take (i := 4) (oi := { dst := some 52, op := Op.load 3 (Operand.tmp 51), type := 3, pos := "rest.go:185", after := #[{ on := 3, ground := Ground.data }], guard := none }) (v := (.int .i64 d.who)) rfl (by kernel_rfl) (by kernel_rfl) (by kernel_rfl) (fun _ _ _ h => h) (.inl ⟨rfl, fun w h => by have e := (CJ.out w h).1; go_simp⟩) hS ?_
                try simp only [Act.put, List.setIfInBounds_toArray, List.set_cons_zero, List.set_cons_succ]
                refine wpAnyH_take (i := 5) (oi := { dst := some 53, op := Op.move (Operand.tmp 1), type := 54, pos := "rest.go:185", after := #[], guard := none }) (v := (.slice (some ⟨gb, ob, none⟩) n1 c1)) rfl (by kernel_rfl) (by kernel_rfl) (by kernel_rfl) (fun _ _ _ h => h) (yields_of rfl (fun w => by go_simp)) hS ?_
                try simp only [Act.put, List.setIfInBounds_toArray, List.set_cons_zero, List.set_cons_succ]
                refine wpAnyH_take (i := 6) (oi := { dst := some 54, op := Op.move (Operand.tmp 2), type := 3, pos := "rest.go:185", after := #[], guard := none }) (v := (.int .i64 (i : Int))) rfl (by kernel_rfl) (by kernel_rfl) (by kernel_rfl) (fun _ _ _ h => h) (yields_of rfl (fun w => by go_simp)) hS ?_
                try simp only [Act.put, List.setIfInBounds_toArray, List.set_cons_zero, List.set_cons_succ]
                refine wpAnyH_take (i := 7) (oi := { dst := some 55, op := Op.indexAddr 54 (Operand.tmp 53) (Operand.tmp 54), type := 0, pos := "rest.go:185", after := #[{ on := 5, ground := Ground.data }, { on := 6, ground := Ground.data }], guard := none }) (v := (.pointer (some ⟨gb, ob + i * 34, none⟩))) rfl (by kernel_rfl) (by kernel_rfl) (by kernel_rfl) (fun _ _ _ h => h) (yields_of rfl (fun w => by go_simp)) hS ?_
                try simp only [Act.put, List.setIfInBounds_toArray, List.set_cons_zero, List.set_cons_succ]
                refine wpAnyH_take (i := 8) (oi := { dst := some 56, op := Op.fieldAddr 62 (Operand.tmp 55) 0, type := 0, pos := "rest.go:185", after := #[{ on := 7, ground := Ground.data }], guard := none }) (v := (.pointer (some ⟨gb, ob + i * 34, none⟩))) rfl (by kernel_rfl) (by kernel_rfl) (by kernel_rfl) (fun _ _ _ h => h) (yields_of rfl (fun w => by go_simp)) hS ?_
                try simp only [Act.put, List.setIfInBounds_toArray, List.set_cons_zero, List.set_cons_succ]
                refine wpAnyH_take (i := 9) (oi := { dst := some 57, op := Op.load 3 (Operand.tmp 56), type := 3, pos := "rest.go:185", after := #[{ on := 8, ground := Ground.data }], guard := none }) (v := (.int .i64 b.who)) rfl (by kernel_rfl) (by kernel_rfl) (by kernel_rfl) (fun _ _ _ h => h) (.inl ⟨rfl, fun w h => by have e := (CJ.out w h).2; go_simp⟩) hS ?_
                try simp only [Act.put, List.setIfInBounds_toArray, List.set_cons_zero, List.set_cons_succ]
                refine wpAnyH_take (i := 10) (oi := { dst := some 58, op := Op.binOp BinOp.eql 3 (Operand.tmp 52) (Operand.tmp 57) 3, type := 4, pos := "rest.go:185", after := #[{ on := 4, ground := Ground.data }, { on := 9, ground := Ground.data }], guard := none }) (v := (.bool true)) rfl (by kernel_rfl) (by kernel_rfl) (by kernel_rfl) (fun _ _ _ h => h) (yields_of rfl (fun w => by go_simp)) hS ?_
                try simp only [Act.put, List.setIfInBounds_toArray, List.set_cons_zero, List.set_cons_succ]
                refine wpAnyH_take (i := 11) (oi := { dst := some 59, op := Op.move (Operand.tmp 58), type := 4, pos := "rest.go:185", after := #[{ on := 10, ground := Ground.data }], guard := none }) (v := (.bool true)) rfl (by kernel_rfl) (by kernel_rfl) (by kernel_rfl) (fun _ _ _ h => h) (yields_of rfl (fun w => by go_simp)) hS ?_
                try simp only [Act.put, List.setIfInBounds_toArray, List.set_cons_zero, List.set_cons_succ]
                refine wpAnyH_take (i := 12) (oi := { dst := some 60, op := Op.move (Operand.tmp 0), type := 43, pos := "rest.go:185", after := #[{ on := 11, ground := Ground.guard }], guard := some (11, true) }) (v := (.slice (some ⟨gv, ov, none⟩) n0 c0)) rfl (by kernel_rfl) (by kernel_rfl) (by kernel_rfl) (fun _ _ _ h => h) (yields_of rfl (fun w => by go_simp)) hS ?_
                try simp only [Act.put, List.setIfInBounds_toArray, List.set_cons_zero, List.set_cons_succ]
                refine wpAnyH_take (i := 13) (oi := { dst := some 61, op := Op.move (Operand.tmp 1), type := 54, pos := "rest.go:185", after := #[{ on := 11, ground := Ground.guard }], guard := some (11, true) }) (v := (.slice (some ⟨gb, ob, none⟩) n1 c1)) rfl (by kernel_rfl) (by kernel_rfl) (by kernel_rfl) (fun _ _ _ h => h) (yields_of rfl (fun w => by go_simp)) hS ?_
                try simp only [Act.put, List.setIfInBounds_toArray, List.set_cons_zero, List.set_cons_succ]
                refine wpAnyH_take (i := 14) (oi := { dst := some 62, op := Op.move (Operand.tmp 9), type := 3, pos := "rest.go:185", after := #[{ on := 11, ground := Ground.guard }], guard := some (11, true) }) (v := (.int .i64 (j : Int))) rfl (by kernel_rfl) (by kernel_rfl) (by kernel_rfl) (fun _ _ _ h => h) (yields_of rfl (fun w => by go_simp)) hS ?_
                try simp only [Act.put, List.setIfInBounds_toArray, List.set_cons_zero, List.set_cons_succ]
                refine wpAnyH_take (i := 15) (oi := { dst := some 63, op := Op.indexAddr 54 (Operand.tmp 61) (Operand.tmp 62), type := 0, pos := "rest.go:185", after := #[{ on := 13, ground := Ground.data }, { on := 14, ground := Ground.data }, { on := 11, ground := Ground.guard }], guard := some (11, true) }) (v := (.pointer (some ⟨gb, ob + j * 34, none⟩))) rfl (by kernel_rfl) (by kernel_rfl) (by kernel_rfl) (fun _ _ _ h => h) (yields_of rfl (fun w => by go_simp)) hS ?_
                try simp only [Act.put, List.setIfInBounds_toArray, List.set_cons_zero, List.set_cons_succ]
                refine wpAnyH_take (i := 16) (oi := { dst := some 64, op := Op.load 62 (Operand.tmp 63), type := 62, pos := "rest.go:185", after := #[{ on := 15, ground := Ground.data }, { on := 11, ground := Ground.guard }], guard := some (11, true) }) (v := (.agg (bc d).toArray)) rfl (by kernel_rfl) (by kernel_rfl) (by kernel_rfl) (fun _ _ _ h => h) (yieldsIf_load_mid rfl 62 (.tmp 63) rfl gb (ob + j * 34) rfl (bc d) _ (fun w h => CRJ.out w h) Tryd.underlying62 rfl (by rw [HLd.out]; exact bidT.size)) hS ?_
                try simp only [Act.put, List.setIfInBounds_toArray, List.set_cons_zero, List.set_cons_succ]
                refine wpAnyH_ready (rs := [17]) (by kernel_rfl) (by simp) ?_
                refine AllReadyH.cons (o := { dst := some 65, op := Op.call { callee := Callee.value (Operand.func 52), args := #[Operand.tmp 60, Operand.tmp 64], argTypes := #[43, 62] }, type := 4, pos := "rest.go:185", after := #[{ on := 12, ground := Ground.data }, { on := 16, ground := Ground.data }, { on := 11, ground := Ground.chain }, { on := 11, ground := Ground.guard }], guard := some (11, true) }) rfl (fun K hK => ?_) AllReadyH.nil
                go_simp
                refine (unhid CC _ hS).mono ?_
                rintro e wq1 ⟨rfl, hb1⟩
                go_wp2_with fail
                refine hK.out _ _ hb1 (fun hS1 => ?_)
                try simp only [Act.put, List.setIfInBounds_toArray, List.set_cons_zero, List.set_cons_succ]
                refine wpAnyH_take (i := 18) (oi := { dst := some 66, op := Op.pick (Operand.tmp 59) (Operand.tmp 65) (Operand.const (Value.bool false)), type := 4, pos := "rest.go:185", after := #[{ on := 11, ground := Ground.data }, { on := 17, ground := Ground.data }], guard := none }) (v := (.bool true)) rfl (by kernel_rfl) (by kernel_rfl) (by kernel_rfl) (fun _ _ _ h => h) (yields_of rfl (fun w => by go_simp)) hS1 ?_
                refine wpAnyH_done (by kernel_rfl) ?_ _
                have E8 := hid ((unhid HB).trans (hb1.mono hsq))
                clear hb1 CC CJ CRJ
                go_wp2_with fail
                go_ret
                exact ⟨by rw [HRF.out]; rfl, unhid E8⟩
              · have CC := hid fun W (hW : Below wq.heap.size wq W) => (counts1_any Vs d (some ⟨gv, ov, none⟩) n0 c0 D W ((unhid HV).below (((unhid HB).trans (hW.mono hsq)).mono hD)) HVL.out HV2.out (Nat.le_trans hD (Nat.le_trans hsq hW.size)) HDK.out false ⟨fun h => absurd h (by decide), fun h => absurd h hok⟩).mono fun e w' h => (⟨h.1, hW.trans (h.2.mono hW.size)⟩ : e = .returned (.bool false) ∧ Below wq.heap.size wq w')
                have HN2 : Hid (∀ k < j + 1, ∀ c, bs[k]? = some c → c.who = b.who → ¬ okB Vs c) := hid fun k hk c hc hcw => by
                  by_cases hkj : k < j
                  · exact HN.out k hkj c hc hcw
                  · have e : k = j := by omega
                    rw [e, HDI.out] at hc
                    rw [← Option.some.inj hc]; exact hok
                clear hok
                refine wp_region_held_drew (S := fun w' => Below wq.heap.size wq w') (by kernel_rfl) ((Below.refl _ _).drew) (fun hS => ?_)
                refine wpAnyH_take (i := 0) (oi := { dst := some 48, op := Op.move (Operand.tmp 1), type := 54, pos := "rest.go:185", after := #[], guard := none }) (v := (.slice (some ⟨gb, ob, none⟩) n1 c1)) rfl (by kernel_rfl) (by kernel_rfl) (by kernel_rfl) (fun _ _ _ h => h) (yields_of rfl (fun w => by go_simp)) hS ?_
                try simp only [Act.put, List.setIfInBounds_toArray, List.set_cons_zero, List.set_cons_succ]
                refine wpAnyH_take (i := 1) (oi := { dst := some 49, op := Op.move (Operand.tmp 9), type := 3, pos := "rest.go:185", after := #[], guard := none }) (v := (.int .i64 (j : Int))) rfl (by kernel_rfl) (by kernel_rfl) (by kernel_rfl) (fun _ _ _ h => h) (yields_of rfl (fun w => by go_simp)) hS ?_
                try simp only [Act.put, List.setIfInBounds_toArray, List.set_cons_zero, List.set_cons_succ]
                refine wpAnyH_take (i := 2) (oi := { dst := some 50, op := Op.indexAddr 54 (Operand.tmp 48) (Operand.tmp 49), type := 0, pos := "rest.go:185", after := #[{ on := 0, ground := Ground.data }, { on := 1, ground := Ground.data }], guard := none }) (v := (.pointer (some ⟨gb, ob + j * 34, none⟩))) rfl (by kernel_rfl) (by kernel_rfl) (by kernel_rfl) (fun _ _ _ h => h) (yields_of rfl (fun w => by go_simp)) hS ?_
                try simp only [Act.put, List.setIfInBounds_toArray, List.set_cons_zero, List.set_cons_succ]
                refine wpAnyH_take (i := 3) (oi := { dst := some 51, op := Op.fieldAddr 62 (Operand.tmp 50) 0, type := 0, pos := "rest.go:185", after := #[{ on := 2, ground := Ground.data }], guard := none }) (v := (.pointer (some ⟨gb, ob + j * 34, none⟩))) rfl (by kernel_rfl) (by kernel_rfl) (by kernel_rfl) (fun _ _ _ h => h) (yields_of rfl (fun w => by go_simp)) hS ?_
                try simp only [Act.put, List.setIfInBounds_toArray, List.set_cons_zero, List.set_cons_succ]
                refine wpAnyH_take (i := 4) (oi := { dst := some 52, op := Op.load 3 (Operand.tmp 51), type := 3, pos := "rest.go:185", after := #[{ on := 3, ground := Ground.data }], guard := none }) (v := (.int .i64 d.who)) rfl (by kernel_rfl) (by kernel_rfl) (by kernel_rfl) (fun _ _ _ h => h) (.inl ⟨rfl, fun w h => by have e := (CJ.out w h).1; go_simp⟩) hS ?_
                try simp only [Act.put, List.setIfInBounds_toArray, List.set_cons_zero, List.set_cons_succ]
                refine wpAnyH_take (i := 5) (oi := { dst := some 53, op := Op.move (Operand.tmp 1), type := 54, pos := "rest.go:185", after := #[], guard := none }) (v := (.slice (some ⟨gb, ob, none⟩) n1 c1)) rfl (by kernel_rfl) (by kernel_rfl) (by kernel_rfl) (fun _ _ _ h => h) (yields_of rfl (fun w => by go_simp)) hS ?_
                try simp only [Act.put, List.setIfInBounds_toArray, List.set_cons_zero, List.set_cons_succ]
                refine wpAnyH_take (i := 6) (oi := { dst := some 54, op := Op.move (Operand.tmp 2), type := 3, pos := "rest.go:185", after := #[], guard := none }) (v := (.int .i64 (i : Int))) rfl (by kernel_rfl) (by kernel_rfl) (by kernel_rfl) (fun _ _ _ h => h) (yields_of rfl (fun w => by go_simp)) hS ?_
                try simp only [Act.put, List.setIfInBounds_toArray, List.set_cons_zero, List.set_cons_succ]
                refine wpAnyH_take (i := 7) (oi := { dst := some 55, op := Op.indexAddr 54 (Operand.tmp 53) (Operand.tmp 54), type := 0, pos := "rest.go:185", after := #[{ on := 5, ground := Ground.data }, { on := 6, ground := Ground.data }], guard := none }) (v := (.pointer (some ⟨gb, ob + i * 34, none⟩))) rfl (by kernel_rfl) (by kernel_rfl) (by kernel_rfl) (fun _ _ _ h => h) (yields_of rfl (fun w => by go_simp)) hS ?_
                try simp only [Act.put, List.setIfInBounds_toArray, List.set_cons_zero, List.set_cons_succ]
                refine wpAnyH_take (i := 8) (oi := { dst := some 56, op := Op.fieldAddr 62 (Operand.tmp 55) 0, type := 0, pos := "rest.go:185", after := #[{ on := 7, ground := Ground.data }], guard := none }) (v := (.pointer (some ⟨gb, ob + i * 34, none⟩))) rfl (by kernel_rfl) (by kernel_rfl) (by kernel_rfl) (fun _ _ _ h => h) (yields_of rfl (fun w => by go_simp)) hS ?_
                try simp only [Act.put, List.setIfInBounds_toArray, List.set_cons_zero, List.set_cons_succ]
                refine wpAnyH_take (i := 9) (oi := { dst := some 57, op := Op.load 3 (Operand.tmp 56), type := 3, pos := "rest.go:185", after := #[{ on := 8, ground := Ground.data }], guard := none }) (v := (.int .i64 b.who)) rfl (by kernel_rfl) (by kernel_rfl) (by kernel_rfl) (fun _ _ _ h => h) (.inl ⟨rfl, fun w h => by have e := (CJ.out w h).2; go_simp⟩) hS ?_
                try simp only [Act.put, List.setIfInBounds_toArray, List.set_cons_zero, List.set_cons_succ]
                refine wpAnyH_take (i := 10) (oi := { dst := some 58, op := Op.binOp BinOp.eql 3 (Operand.tmp 52) (Operand.tmp 57) 3, type := 4, pos := "rest.go:185", after := #[{ on := 4, ground := Ground.data }, { on := 9, ground := Ground.data }], guard := none }) (v := (.bool true)) rfl (by kernel_rfl) (by kernel_rfl) (by kernel_rfl) (fun _ _ _ h => h) (yields_of rfl (fun w => by go_simp)) hS ?_
                try simp only [Act.put, List.setIfInBounds_toArray, List.set_cons_zero, List.set_cons_succ]
                refine wpAnyH_take (i := 11) (oi := { dst := some 59, op := Op.move (Operand.tmp 58), type := 4, pos := "rest.go:185", after := #[{ on := 10, ground := Ground.data }], guard := none }) (v := (.bool true)) rfl (by kernel_rfl) (by kernel_rfl) (by kernel_rfl) (fun _ _ _ h => h) (yields_of rfl (fun w => by go_simp)) hS ?_
                try simp only [Act.put, List.setIfInBounds_toArray, List.set_cons_zero, List.set_cons_succ]
                refine wpAnyH_take (i := 12) (oi := { dst := some 60, op := Op.move (Operand.tmp 0), type := 43, pos := "rest.go:185", after := #[{ on := 11, ground := Ground.guard }], guard := some (11, true) }) (v := (.slice (some ⟨gv, ov, none⟩) n0 c0)) rfl (by kernel_rfl) (by kernel_rfl) (by kernel_rfl) (fun _ _ _ h => h) (yields_of rfl (fun w => by go_simp)) hS ?_
                try simp only [Act.put, List.setIfInBounds_toArray, List.set_cons_zero, List.set_cons_succ]
                refine wpAnyH_take (i := 13) (oi := { dst := some 61, op := Op.move (Operand.tmp 1), type := 54, pos := "rest.go:185", after := #[{ on := 11, ground := Ground.guard }], guard := some (11, true) }) (v := (.slice (some ⟨gb, ob, none⟩) n1 c1)) rfl (by kernel_rfl) (by kernel_rfl) (by kernel_rfl) (fun _ _ _ h => h) (yields_of rfl (fun w => by go_simp)) hS ?_
                try simp only [Act.put, List.setIfInBounds_toArray, List.set_cons_zero, List.set_cons_succ]
                refine wpAnyH_take (i := 14) (oi := { dst := some 62, op := Op.move (Operand.tmp 9), type := 3, pos := "rest.go:185", after := #[{ on := 11, ground := Ground.guard }], guard := some (11, true) }) (v := (.int .i64 (j : Int))) rfl (by kernel_rfl) (by kernel_rfl) (by kernel_rfl) (fun _ _ _ h => h) (yields_of rfl (fun w => by go_simp)) hS ?_
                try simp only [Act.put, List.setIfInBounds_toArray, List.set_cons_zero, List.set_cons_succ]
                refine wpAnyH_take (i := 15) (oi := { dst := some 63, op := Op.indexAddr 54 (Operand.tmp 61) (Operand.tmp 62), type := 0, pos := "rest.go:185", after := #[{ on := 13, ground := Ground.data }, { on := 14, ground := Ground.data }, { on := 11, ground := Ground.guard }], guard := some (11, true) }) (v := (.pointer (some ⟨gb, ob + j * 34, none⟩))) rfl (by kernel_rfl) (by kernel_rfl) (by kernel_rfl) (fun _ _ _ h => h) (yields_of rfl (fun w => by go_simp)) hS ?_
                try simp only [Act.put, List.setIfInBounds_toArray, List.set_cons_zero, List.set_cons_succ]
                refine wpAnyH_take (i := 16) (oi := { dst := some 64, op := Op.load 62 (Operand.tmp 63), type := 62, pos := "rest.go:185", after := #[{ on := 15, ground := Ground.data }, { on := 11, ground := Ground.guard }], guard := some (11, true) }) (v := (.agg (bc d).toArray)) rfl (by kernel_rfl) (by kernel_rfl) (by kernel_rfl) (fun _ _ _ h => h) (yieldsIf_load_mid rfl 62 (.tmp 63) rfl gb (ob + j * 34) rfl (bc d) _ (fun w h => CRJ.out w h) Tryd.underlying62 rfl (by rw [HLd.out]; exact bidT.size)) hS ?_
                try simp only [Act.put, List.setIfInBounds_toArray, List.set_cons_zero, List.set_cons_succ]
                refine wpAnyH_ready (rs := [17]) (by kernel_rfl) (by simp) ?_
                refine AllReadyH.cons (o := { dst := some 65, op := Op.call { callee := Callee.value (Operand.func 52), args := #[Operand.tmp 60, Operand.tmp 64], argTypes := #[43, 62] }, type := 4, pos := "rest.go:185", after := #[{ on := 12, ground := Ground.data }, { on := 16, ground := Ground.data }, { on := 11, ground := Ground.chain }, { on := 11, ground := Ground.guard }], guard := some (11, true) }) rfl (fun K hK => ?_) AllReadyH.nil
                go_simp
                refine (unhid CC _ hS).mono ?_
                rintro e wq1 ⟨rfl, hb1⟩
                go_wp2_with fail
                refine hK.out _ _ hb1 (fun hS1 => ?_)
                try simp only [Act.put, List.setIfInBounds_toArray, List.set_cons_zero, List.set_cons_succ]
                refine wpAnyH_take (i := 18) (oi := { dst := some 66, op := Op.pick (Operand.tmp 59) (Operand.tmp 65) (Operand.const (Value.bool false)), type := 4, pos := "rest.go:185", after := #[{ on := 11, ground := Ground.data }, { on := 17, ground := Ground.data }], guard := none }) (v := (.bool false)) rfl (by kernel_rfl) (by kernel_rfl) (by kernel_rfl) (fun _ _ _ h => h) (yields_of rfl (fun w => by go_simp)) hS1 ?_
                refine wpAnyH_done (by kernel_rfl) ?_ _
                have E8 := hid ((unhid HB).trans (hb1.mono hsq))
                clear hb1 CC CJ CRJ
                go_wp2_with fail
                go_roundw
                case rel => exact ⟨j + 1, by omega, by go_num, HN2, E8⟩
                case measure => simp [intOf]; omega
            · have HN2 : Hid (∀ k < j + 1, ∀ c, bs[k]? = some c → c.who = b.who → ¬ okB Vs c) := hid fun k hk c hc hcw => by
                by_cases hkj : k < j
                · exact HN.out k hkj c hc hcw
                · have e : k = j := by omega
                  rw [e, HDI.out] at hc
                  rw [← Option.some.inj hc] at hcw; exact absurd hcw hw
              have hwd : (d.who == b.who) = false := by simpa using hw
              have hwe : decide (d.who = b.who) = false := by simpa using hw
              refine wp_region_held_drew (S := fun w' => Below wq.heap.size wq w') (by kernel_rfl) ((Below.refl _ _).drew) (fun hS => ?_)
              refine wpAnyH_take (i := 0) (oi := { dst := some 48, op := Op.move (Operand.tmp 1), type := 54, pos := "rest.go:185", after := #[], guard := none }) (v := (.slice (some ⟨gb, ob, none⟩) n1 c1)) rfl (by kernel_rfl) (by kernel_rfl) (by kernel_rfl) (fun _ _ _ h => h) (yields_of rfl (fun w => by go_simp)) hS ?_
              try simp only [Act.put, List.setIfInBounds_toArray, List.set_cons_zero, List.set_cons_succ]
              refine wpAnyH_take (i := 1) (oi := { dst := some 49, op := Op.move (Operand.tmp 9), type := 3, pos := "rest.go:185", after := #[], guard := none }) (v := (.int .i64 (j : Int))) rfl (by kernel_rfl) (by kernel_rfl) (by kernel_rfl) (fun _ _ _ h => h) (yields_of rfl (fun w => by go_simp)) hS ?_
              try simp only [Act.put, List.setIfInBounds_toArray, List.set_cons_zero, List.set_cons_succ]
              refine wpAnyH_take (i := 2) (oi := { dst := some 50, op := Op.indexAddr 54 (Operand.tmp 48) (Operand.tmp 49), type := 0, pos := "rest.go:185", after := #[{ on := 0, ground := Ground.data }, { on := 1, ground := Ground.data }], guard := none }) (v := (.pointer (some ⟨gb, ob + j * 34, none⟩))) rfl (by kernel_rfl) (by kernel_rfl) (by kernel_rfl) (fun _ _ _ h => h) (yields_of rfl (fun w => by go_simp)) hS ?_
              try simp only [Act.put, List.setIfInBounds_toArray, List.set_cons_zero, List.set_cons_succ]
              refine wpAnyH_take (i := 3) (oi := { dst := some 51, op := Op.fieldAddr 62 (Operand.tmp 50) 0, type := 0, pos := "rest.go:185", after := #[{ on := 2, ground := Ground.data }], guard := none }) (v := (.pointer (some ⟨gb, ob + j * 34, none⟩))) rfl (by kernel_rfl) (by kernel_rfl) (by kernel_rfl) (fun _ _ _ h => h) (yields_of rfl (fun w => by go_simp)) hS ?_
              try simp only [Act.put, List.setIfInBounds_toArray, List.set_cons_zero, List.set_cons_succ]
              refine wpAnyH_take (i := 4) (oi := { dst := some 52, op := Op.load 3 (Operand.tmp 51), type := 3, pos := "rest.go:185", after := #[{ on := 3, ground := Ground.data }], guard := none }) (v := (.int .i64 d.who)) rfl (by kernel_rfl) (by kernel_rfl) (by kernel_rfl) (fun _ _ _ h => h) (.inl ⟨rfl, fun w h => by have e := (CJ.out w h).1; go_simp⟩) hS ?_
              try simp only [Act.put, List.setIfInBounds_toArray, List.set_cons_zero, List.set_cons_succ]
              refine wpAnyH_take (i := 5) (oi := { dst := some 53, op := Op.move (Operand.tmp 1), type := 54, pos := "rest.go:185", after := #[], guard := none }) (v := (.slice (some ⟨gb, ob, none⟩) n1 c1)) rfl (by kernel_rfl) (by kernel_rfl) (by kernel_rfl) (fun _ _ _ h => h) (yields_of rfl (fun w => by go_simp)) hS ?_
              try simp only [Act.put, List.setIfInBounds_toArray, List.set_cons_zero, List.set_cons_succ]
              refine wpAnyH_take (i := 6) (oi := { dst := some 54, op := Op.move (Operand.tmp 2), type := 3, pos := "rest.go:185", after := #[], guard := none }) (v := (.int .i64 (i : Int))) rfl (by kernel_rfl) (by kernel_rfl) (by kernel_rfl) (fun _ _ _ h => h) (yields_of rfl (fun w => by go_simp)) hS ?_
              try simp only [Act.put, List.setIfInBounds_toArray, List.set_cons_zero, List.set_cons_succ]
              refine wpAnyH_take (i := 7) (oi := { dst := some 55, op := Op.indexAddr 54 (Operand.tmp 53) (Operand.tmp 54), type := 0, pos := "rest.go:185", after := #[{ on := 5, ground := Ground.data }, { on := 6, ground := Ground.data }], guard := none }) (v := (.pointer (some ⟨gb, ob + i * 34, none⟩))) rfl (by kernel_rfl) (by kernel_rfl) (by kernel_rfl) (fun _ _ _ h => h) (yields_of rfl (fun w => by go_simp)) hS ?_
              try simp only [Act.put, List.setIfInBounds_toArray, List.set_cons_zero, List.set_cons_succ]
              refine wpAnyH_take (i := 8) (oi := { dst := some 56, op := Op.fieldAddr 62 (Operand.tmp 55) 0, type := 0, pos := "rest.go:185", after := #[{ on := 7, ground := Ground.data }], guard := none }) (v := (.pointer (some ⟨gb, ob + i * 34, none⟩))) rfl (by kernel_rfl) (by kernel_rfl) (by kernel_rfl) (fun _ _ _ h => h) (yields_of rfl (fun w => by go_simp)) hS ?_
              try simp only [Act.put, List.setIfInBounds_toArray, List.set_cons_zero, List.set_cons_succ]
              refine wpAnyH_take (i := 9) (oi := { dst := some 57, op := Op.load 3 (Operand.tmp 56), type := 3, pos := "rest.go:185", after := #[{ on := 8, ground := Ground.data }], guard := none }) (v := (.int .i64 b.who)) rfl (by kernel_rfl) (by kernel_rfl) (by kernel_rfl) (fun _ _ _ h => h) (.inl ⟨rfl, fun w h => by have e := (CJ.out w h).2; go_simp⟩) hS ?_
              try simp only [Act.put, List.setIfInBounds_toArray, List.set_cons_zero, List.set_cons_succ]
              refine wpAnyH_take (i := 10) (oi := { dst := some 58, op := Op.binOp BinOp.eql 3 (Operand.tmp 52) (Operand.tmp 57) 3, type := 4, pos := "rest.go:185", after := #[{ on := 4, ground := Ground.data }, { on := 9, ground := Ground.data }], guard := none }) (v := (.bool false)) rfl (by kernel_rfl) (by kernel_rfl) (by kernel_rfl) (fun _ _ _ h => h) (yields_of rfl (fun w => by go_simp)) hS ?_
              try simp only [Act.put, List.setIfInBounds_toArray, List.set_cons_zero, List.set_cons_succ]
              refine wpAnyH_take (i := 11) (oi := { dst := some 59, op := Op.move (Operand.tmp 58), type := 4, pos := "rest.go:185", after := #[{ on := 10, ground := Ground.data }], guard := none }) (v := (.bool false)) rfl (by kernel_rfl) (by kernel_rfl) (by kernel_rfl) (fun _ _ _ h => h) (yields_of rfl (fun w => by go_simp)) hS ?_
              try simp only [Act.put, List.setIfInBounds_toArray, List.set_cons_zero, List.set_cons_succ]
              refine wpAnyH_take (i := 12) (oi := { dst := some 60, op := Op.move (Operand.tmp 0), type := 43, pos := "rest.go:185", after := #[{ on := 11, ground := Ground.guard }], guard := some (11, true) }) (v := undef) rfl (by kernel_rfl) (by kernel_rfl) (by kernel_rfl) (fun _ _ _ h => h) (.inr ⟨rfl, rfl⟩) hS ?_
              try simp only [Act.put, List.setIfInBounds_toArray, List.set_cons_zero, List.set_cons_succ]
              refine wpAnyH_take (i := 13) (oi := { dst := some 61, op := Op.move (Operand.tmp 1), type := 54, pos := "rest.go:185", after := #[{ on := 11, ground := Ground.guard }], guard := some (11, true) }) (v := undef) rfl (by kernel_rfl) (by kernel_rfl) (by kernel_rfl) (fun _ _ _ h => h) (.inr ⟨rfl, rfl⟩) hS ?_
              try simp only [Act.put, List.setIfInBounds_toArray, List.set_cons_zero, List.set_cons_succ]
              refine wpAnyH_take (i := 14) (oi := { dst := some 62, op := Op.move (Operand.tmp 9), type := 3, pos := "rest.go:185", after := #[{ on := 11, ground := Ground.guard }], guard := some (11, true) }) (v := undef) rfl (by kernel_rfl) (by kernel_rfl) (by kernel_rfl) (fun _ _ _ h => h) (.inr ⟨rfl, rfl⟩) hS ?_
              try simp only [Act.put, List.setIfInBounds_toArray, List.set_cons_zero, List.set_cons_succ]
              refine wpAnyH_take (i := 15) (oi := { dst := some 63, op := Op.indexAddr 54 (Operand.tmp 61) (Operand.tmp 62), type := 0, pos := "rest.go:185", after := #[{ on := 13, ground := Ground.data }, { on := 14, ground := Ground.data }, { on := 11, ground := Ground.guard }], guard := some (11, true) }) (v := undef) rfl (by kernel_rfl) (by kernel_rfl) (by kernel_rfl) (fun _ _ _ h => h) (.inr ⟨rfl, rfl⟩) hS ?_
              try simp only [Act.put, List.setIfInBounds_toArray, List.set_cons_zero, List.set_cons_succ]
              refine wpAnyH_take (i := 16) (oi := { dst := some 64, op := Op.load 62 (Operand.tmp 63), type := 62, pos := "rest.go:185", after := #[{ on := 15, ground := Ground.data }, { on := 11, ground := Ground.guard }], guard := some (11, true) }) (v := undef) rfl (by kernel_rfl) (by kernel_rfl) (by kernel_rfl) (fun _ _ _ h => h) (.inr ⟨rfl, rfl⟩) hS ?_
              try simp only [Act.put, List.setIfInBounds_toArray, List.set_cons_zero, List.set_cons_succ]
              refine wpAnyH_ready (rs := [17]) (by kernel_rfl) (by simp) ?_
              refine AllReadyH.cons (o := { dst := some 65, op := Op.call { callee := Callee.value (Operand.func 52), args := #[Operand.tmp 60, Operand.tmp 64], argTypes := #[43, 62] }, type := 4, pos := "rest.go:185", after := #[{ on := 12, ground := Ground.data }, { on := 16, ground := Ground.data }, { on := 11, ground := Ground.chain }, { on := 11, ground := Ground.guard }], guard := some (11, true) }) rfl (fun K hK => ?_) AllReadyH.nil
              go_simp
              refine hK.out _ _ hS (fun hS1 => ?_)
              try simp only [Act.put, List.setIfInBounds_toArray, List.set_cons_zero, List.set_cons_succ]
              refine wpAnyH_take (i := 18) (oi := { dst := some 66, op := Op.pick (Operand.tmp 59) (Operand.tmp 65) (Operand.const (Value.bool false)), type := 4, pos := "rest.go:185", after := #[{ on := 11, ground := Ground.data }, { on := 17, ground := Ground.data }], guard := none }) (v := Value.bool false) rfl (by kernel_rfl) (by kernel_rfl) (by kernel_rfl) (fun _ _ _ h => h) (yields_of rfl (fun w => by go_simp)) hS1 ?_
              refine wpAnyH_done (by kernel_rfl) ?_ _
              have E8 := hid (unhid HB).drew
              clear CJ CRJ
              go_wp2_with fail
              go_roundw
              case rel => exact ⟨j + 1, by omega, by go_num, HN2, E8⟩
              case measure => simp [intOf]; omega
          · have j3 : (i : Int) ≤ (j : Int) := by omega
            have hrt : r = true := HR.out.2 ⟨HOK.out, fun k hk c hc hcw => HN.out k (by omega) c hc hcw⟩
            have HRT := hid hrt
            clear hrt
            go_wp2_with fail
            go_ret
            exact ⟨by rw [HRT.out]; rfl, unhid HB⟩
      · have HNE : Hid (true = decide (up (vowB b) ≠ dv)) := hid (by simp [hne])
        have hrf : r = false := by
          cases r with
          | false => rfl
          | true => exact absurd (by have h := (HR.out.1 rfl).1.2.2; rw [HX.out] at h; rw [← HGD.out]; exact h.symm) hne
        have HRF := hid hrf
        clear hne hrf
        refine wp_region_held_drew (S := fun w' => Below w5.heap.size w5 w') (by kernel_rfl) ((Below.refl _ _).drew) (fun hS => ?_)
        refine wpAnyH_take (i := 0) (oi := { dst := some 18, op := Op.move (Operand.tmp 8), type := 4, pos := "rest.go:181", after := #[], guard := none }) (v := (.bool true)) rfl (by kernel_rfl) (by kernel_rfl) (by kernel_rfl) (fun _ _ _ h => h) (yields_of rfl (fun w => by go_simp)) hS ?_
        try simp only [Act.put, List.setIfInBounds_toArray, List.set_cons_zero, List.set_cons_succ]
        refine wpAnyH_take (i := 1) (oi := { dst := some 19, op := Op.unOp UnOp.not 4 (Operand.tmp 18), type := 4, pos := "rest.go:181", after := #[{ on := 0, ground := Ground.data }], guard := none }) (v := (.bool false)) rfl (by kernel_rfl) (by kernel_rfl) (by kernel_rfl) (fun _ _ _ h => h) (yields_of rfl (fun w => by go_simp)) hS ?_
        try simp only [Act.put, List.setIfInBounds_toArray, List.set_cons_zero, List.set_cons_succ]
        refine wpAnyH_take (i := 2) (oi := { dst := some 20, op := Op.move (Operand.tmp 19), type := 4, pos := "rest.go:181", after := #[{ on := 1, ground := Ground.data }], guard := none }) (v := (.bool false)) rfl (by kernel_rfl) (by kernel_rfl) (by kernel_rfl) (fun _ _ _ h => h) (yields_of rfl (fun w => by go_simp)) hS ?_
        try simp only [Act.put, List.setIfInBounds_toArray, List.set_cons_zero, List.set_cons_succ]
        refine wpAnyH_take (i := 3) (oi := { dst := some 21, op := Op.move (Operand.tmp 1), type := 54, pos := "rest.go:181", after := #[{ on := 2, ground := Ground.guard }], guard := some (2, false) }) (v := (.slice (some ⟨gb, ob, none⟩) n1 c1)) rfl (by kernel_rfl) (by kernel_rfl) (by kernel_rfl) (fun _ _ _ h => h) (yields_of rfl (fun w => by go_simp)) hS ?_
        try simp only [Act.put, List.setIfInBounds_toArray, List.set_cons_zero, List.set_cons_succ]
        refine wpAnyH_take (i := 4) (oi := { dst := some 22, op := Op.move (Operand.tmp 2), type := 3, pos := "rest.go:181", after := #[{ on := 2, ground := Ground.guard }], guard := some (2, false) }) (v := (.int .i64 (i : Int))) rfl (by kernel_rfl) (by kernel_rfl) (by kernel_rfl) (fun _ _ _ h => h) (yields_of rfl (fun w => by go_simp)) hS ?_
        try simp only [Act.put, List.setIfInBounds_toArray, List.set_cons_zero, List.set_cons_succ]
        refine wpAnyH_take (i := 5) (oi := { dst := some 23, op := Op.indexAddr 54 (Operand.tmp 21) (Operand.tmp 22), type := 0, pos := "rest.go:181", after := #[{ on := 3, ground := Ground.data }, { on := 4, ground := Ground.data }, { on := 2, ground := Ground.guard }], guard := some (2, false) }) (v := (.pointer (some ⟨gb, ob + i * 34, none⟩))) rfl (by kernel_rfl) (by kernel_rfl) (by kernel_rfl) (fun _ _ _ h => h) (yields_of rfl (fun w => by go_simp)) hS ?_
        try simp only [Act.put, List.setIfInBounds_toArray, List.set_cons_zero, List.set_cons_succ]
        refine wpAnyH_take (i := 6) (oi := { dst := some 24, op := Op.fieldAddr 62 (Operand.tmp 23) 0, type := 0, pos := "rest.go:181", after := #[{ on := 5, ground := Ground.data }, { on := 2, ground := Ground.guard }], guard := some (2, false) }) (v := (.pointer (some ⟨gb, ob + i * 34, none⟩))) rfl (by kernel_rfl) (by kernel_rfl) (by kernel_rfl) (fun _ _ _ h => h) (yields_of rfl (fun w => by go_simp)) hS ?_
        try simp only [Act.put, List.setIfInBounds_toArray, List.set_cons_zero, List.set_cons_succ]
        refine wpAnyH_take (i := 7) (oi := { dst := some 25, op := Op.load 3 (Operand.tmp 24), type := 3, pos := "rest.go:181", after := #[{ on := 6, ground := Ground.data }, { on := 2, ground := Ground.guard }], guard := some (2, false) }) (v := (.int .i64 (x : Int))) rfl (by kernel_rfl) (by kernel_rfl) (by kernel_rfl) (fun _ _ _ h => h) (.inl ⟨rfl, fun w h => by have e := CW.out w h; go_simp⟩) hS ?_
        try simp only [Act.put, List.setIfInBounds_toArray, List.set_cons_zero, List.set_cons_succ]
        refine wpAnyH_take (i := 8) (oi := { dst := some 26, op := Op.move (Operand.tmp 0), type := 43, pos := "rest.go:181", after := #[{ on := 2, ground := Ground.guard }], guard := some (2, false) }) (v := (.slice (some ⟨gv, ov, none⟩) n0 c0)) rfl (by kernel_rfl) (by kernel_rfl) (by kernel_rfl) (fun _ _ _ h => h) (yields_of rfl (fun w => by go_simp)) hS ?_
        try simp only [Act.put, List.setIfInBounds_toArray, List.set_cons_zero, List.set_cons_succ]
        refine wpAnyH_take (i := 9) (oi := { dst := some 27, op := Op.call { callee := Callee.builtin Builtin.len, args := #[Operand.tmp 26], argTypes := #[43] }, type := 3, pos := "rest.go:181", after := #[{ on := 8, ground := Ground.data }, { on := 2, ground := Ground.guard }], guard := some (2, false) }) (v := (.int .i64 (n0 : Int))) rfl (by kernel_rfl) (by kernel_rfl) (by kernel_rfl) (fun _ _ _ h => h) (yields_of rfl (fun w => by go_simp)) hS ?_
        try simp only [Act.put, List.setIfInBounds_toArray, List.set_cons_zero, List.set_cons_succ]
        refine wpAnyH_take (i := 10) (oi := { dst := some 28, op := Op.binOp BinOp.geq 3 (Operand.tmp 25) (Operand.tmp 27) 3, type := 4, pos := "rest.go:181", after := #[{ on := 7, ground := Ground.data }, { on := 9, ground := Ground.data }, { on := 2, ground := Ground.guard }], guard := some (2, false) }) (v := (.bool false)) rfl (by kernel_rfl) (by kernel_rfl) (by kernel_rfl) (fun _ _ _ h => h) (yields_of rfl (fun w => by go_simp)) hS ?_
        try simp only [Act.put, List.setIfInBounds_toArray, List.set_cons_zero, List.set_cons_succ]
        refine wpAnyH_take (i := 11) (oi := { dst := some 29, op := Op.pick (Operand.tmp 20) (Operand.const (Value.bool true)) (Operand.tmp 28), type := 4, pos := "rest.go:181", after := #[{ on := 2, ground := Ground.data }, { on := 10, ground := Ground.data }], guard := none }) (v := (.bool false)) rfl (by kernel_rfl) (by kernel_rfl) (by kernel_rfl) (fun _ _ _ h => h) (yields_of rfl (fun w => by go_simp)) hS ?_
        try simp only [Act.put, List.setIfInBounds_toArray, List.set_cons_zero, List.set_cons_succ]
        refine wpAnyH_take (i := 12) (oi := { dst := some 30, op := Op.move (Operand.tmp 29), type := 4, pos := "rest.go:181", after := #[{ on := 11, ground := Ground.data }, { on := 2, ground := Ground.chain }], guard := none }) (v := (.bool false)) rfl (by kernel_rfl) (by kernel_rfl) (by kernel_rfl) (fun _ _ _ h => h) (yields_of rfl (fun w => by go_simp)) hS ?_
        try simp only [Act.put, List.setIfInBounds_toArray, List.set_cons_zero, List.set_cons_succ]
        refine wpAnyH_take (i := 13) (oi := { dst := some 31, op := Op.move (Operand.tmp 7), type := 24, pos := "rest.go:181", after := #[{ on := 12, ground := Ground.guard }], guard := some (12, false) }) (v := (.slice A5 45 c5)) rfl (by kernel_rfl) (by kernel_rfl) (by kernel_rfl) (fun _ _ _ h => h) (yields_of rfl (fun w => by go_simp)) hS ?_
        try simp only [Act.put, List.setIfInBounds_toArray, List.set_cons_zero, List.set_cons_succ]
        refine wpAnyH_take (i := 15) (oi := { dst := some 33, op := Op.move (Operand.tmp 0), type := 43, pos := "rest.go:181", after := #[{ on := 12, ground := Ground.guard }], guard := some (12, false) }) (v := (.slice (some ⟨gv, ov, none⟩) n0 c0)) rfl (by kernel_rfl) (by kernel_rfl) (by kernel_rfl) (fun _ _ _ h => h) (yields_of rfl (fun w => by go_simp)) hS ?_
        try simp only [Act.put, List.setIfInBounds_toArray, List.set_cons_zero, List.set_cons_succ]
        refine wpAnyH_take (i := 16) (oi := { dst := some 34, op := Op.move (Operand.tmp 1), type := 54, pos := "rest.go:181", after := #[{ on := 12, ground := Ground.guard }], guard := some (12, false) }) (v := (.slice (some ⟨gb, ob, none⟩) n1 c1)) rfl (by kernel_rfl) (by kernel_rfl) (by kernel_rfl) (fun _ _ _ h => h) (yields_of rfl (fun w => by go_simp)) hS ?_
        try simp only [Act.put, List.setIfInBounds_toArray, List.set_cons_zero, List.set_cons_succ]
        refine wpAnyH_take (i := 17) (oi := { dst := some 35, op := Op.move (Operand.tmp 2), type := 3, pos := "rest.go:181", after := #[{ on := 12, ground := Ground.guard }], guard := some (12, false) }) (v := (.int .i64 (i : Int))) rfl (by kernel_rfl) (by kernel_rfl) (by kernel_rfl) (fun _ _ _ h => h) (yields_of rfl (fun w => by go_simp)) hS ?_
        try simp only [Act.put, List.setIfInBounds_toArray, List.set_cons_zero, List.set_cons_succ]
        refine wpAnyH_take (i := 18) (oi := { dst := some 36, op := Op.indexAddr 54 (Operand.tmp 34) (Operand.tmp 35), type := 0, pos := "rest.go:181", after := #[{ on := 16, ground := Ground.data }, { on := 17, ground := Ground.data }, { on := 12, ground := Ground.guard }], guard := some (12, false) }) (v := (.pointer (some ⟨gb, ob + i * 34, none⟩))) rfl (by kernel_rfl) (by kernel_rfl) (by kernel_rfl) (fun _ _ _ h => h) (yields_of rfl (fun w => by go_simp)) hS ?_
        try simp only [Act.put, List.setIfInBounds_toArray, List.set_cons_zero, List.set_cons_succ]
        refine wpAnyH_take (i := 19) (oi := { dst := some 37, op := Op.fieldAddr 62 (Operand.tmp 36) 0, type := 0, pos := "rest.go:181", after := #[{ on := 18, ground := Ground.data }, { on := 12, ground := Ground.guard }], guard := some (12, false) }) (v := (.pointer (some ⟨gb, ob + i * 34, none⟩))) rfl (by kernel_rfl) (by kernel_rfl) (by kernel_rfl) (fun _ _ _ h => h) (yields_of rfl (fun w => by go_simp)) hS ?_
        try simp only [Act.put, List.setIfInBounds_toArray, List.set_cons_zero, List.set_cons_succ]
        refine wpAnyH_take (i := 20) (oi := { dst := some 38, op := Op.load 3 (Operand.tmp 37), type := 3, pos := "rest.go:181", after := #[{ on := 19, ground := Ground.data }, { on := 12, ground := Ground.guard }], guard := some (12, false) }) (v := (.int .i64 (x : Int))) rfl (by kernel_rfl) (by kernel_rfl) (by kernel_rfl) (fun _ _ _ h => h) (.inl ⟨rfl, fun w h => by have e := CW.out w h; go_simp⟩) hS ?_
        try simp only [Act.put, List.setIfInBounds_toArray, List.set_cons_zero, List.set_cons_succ]
        refine wpAnyH_take (i := 21) (oi := { dst := some 39, op := Op.indexAddr 43 (Operand.tmp 33) (Operand.tmp 38), type := 0, pos := "rest.go:181", after := #[{ on := 15, ground := Ground.data }, { on := 20, ground := Ground.data }, { on := 12, ground := Ground.guard }], guard := some (12, false) }) (v := (.pointer (some ⟨gv, ov + x * 32, none⟩))) rfl (by kernel_rfl) (by kernel_rfl) (by kernel_rfl) (fun _ _ _ h => h) (yields_of rfl (fun w => by go_simp)) hS ?_
        try simp only [Act.put, List.setIfInBounds_toArray, List.set_cons_zero, List.set_cons_succ]
        refine wpAnyH_take (i := 22) (oi := { dst := some 40, op := Op.load 23 (Operand.tmp 39), type := 23, pos := "rest.go:181", after := #[{ on := 21, ground := Ground.data }, { on := 12, ground := Ground.guard }], guard := some (12, false) }) (v := (.agg (cellsOf .u8 dv))) rfl (by kernel_rfl) (by kernel_rfl) (by kernel_rfl) (fun _ _ _ h => h) (yields_load digT rfl (.tmp 39) rfl rfl HDL.out (fun w h => CV.out w h)) hS ?_
        try simp only [Act.put, List.setIfInBounds_toArray, List.set_cons_zero, List.set_cons_succ]
        refine wpAnyH_ready (rs := [14]) (by kernel_rfl) (by simp) ?_
        refine AllReadyH.cons (o := { dst := some 32, op := Op.call { callee := Callee.value (Operand.func 11), args := #[Operand.tmp 31], argTypes := #[24] }, type := 23, pos := "rest.go:181", after := #[{ on := 13, ground := Ground.data }, { on := 12, ground := Ground.chain }, { on := 12, ground := Ground.guard }], guard := some (12, false) }) rfl (fun K hK => ?_) AllReadyH.nil
        go_simp
        refine (unhid CS _ hS).mono ?_
        rintro e wq1 ⟨rfl, hb1⟩
        go_wp2_with fail
        refine hK.out _ _ hb1 (fun hS1 => ?_)
        try simp only [Act.put, List.setIfInBounds_toArray, List.set_cons_zero, List.set_cons_succ]
        refine wpAnyH_take (i := 23) (oi := { dst := some 41, op := Op.binOp BinOp.neq 23 (Operand.tmp 32) (Operand.tmp 40) 23, type := 4, pos := "rest.go:181", after := #[{ on := 14, ground := Ground.data }, { on := 22, ground := Ground.data }, { on := 12, ground := Ground.guard }], guard := some (12, false) }) (v := (.bool true)) rfl (by kernel_rfl) (by kernel_rfl) (by kernel_rfl) (fun _ _ _ h => h) (yields_neqD digT noGuardD rfl (.tmp 32) (.tmp 40) 23 rfl rfl rfl (sum_len_u _) HDL.out HNE.out) hS1 ?_
        try simp only [Act.put, List.setIfInBounds_toArray, List.set_cons_zero, List.set_cons_succ]
        refine wpAnyH_take (i := 24) (oi := { dst := some 42, op := Op.pick (Operand.tmp 30) (Operand.const (Value.bool true)) (Operand.tmp 41), type := 4, pos := "rest.go:181", after := #[{ on := 12, ground := Ground.data }, { on := 23, ground := Ground.data }], guard := none }) (v := (.bool true)) rfl (by kernel_rfl) (by kernel_rfl) (by kernel_rfl) (fun _ _ _ h => h) (yields_of rfl (fun w => by go_simp)) hS1 ?_
        refine wpAnyH_done (by kernel_rfl) ?_ _
        have E9 := hid ((unhid E5).trans (hb1.mono (unhid E5).size))
        go_wp2_with fail
        go_ret
        exact ⟨by rw [HRF.out]; rfl, unhid E9⟩
    · have x2 : (n0 : Int) ≤ (x : Int) := by omega
      have hrf : r = false := by
        cases r with
        | false => rfl
        | true => have h := (HR.out.1 rfl).1.2.1; rw [HX.out, HVL.out] at h; omega
      have HRF := hid hrf
      clear hrf hxn
      refine wp_region_held_drew (S := fun w' => Below w5.heap.size w5 w') (by kernel_rfl) ((Below.refl _ _).drew) (fun hS => ?_)
      refine wpAnyH_take (i := 0) (oi := { dst := some 18, op := Op.move (Operand.tmp 8), type := 4, pos := "rest.go:181", after := #[], guard := none }) (v := (.bool true)) rfl (by kernel_rfl) (by kernel_rfl) (by kernel_rfl) (fun _ _ _ h => h) (yields_of rfl (fun w => by go_simp)) hS ?_
      try simp only [Act.put, List.setIfInBounds_toArray, List.set_cons_zero, List.set_cons_succ]
      refine wpAnyH_take (i := 1) (oi := { dst := some 19, op := Op.unOp UnOp.not 4 (Operand.tmp 18), type := 4, pos := "rest.go:181", after := #[{ on := 0, ground := Ground.data }], guard := none }) (v := (.bool false)) rfl (by kernel_rfl) (by kernel_rfl) (by kernel_rfl) (fun _ _ _ h => h) (yields_of rfl (fun w => by go_simp)) hS ?_
      try simp only [Act.put, List.setIfInBounds_toArray, List.set_cons_zero, List.set_cons_succ]
      refine wpAnyH_take (i := 2) (oi := { dst := some 20, op := Op.move (Operand.tmp 19), type := 4, pos := "rest.go:181", after := #[{ on := 1, ground := Ground.data }], guard := none }) (v := (.bool false)) rfl (by kernel_rfl) (by kernel_rfl) (by kernel_rfl) (fun _ _ _ h => h) (yields_of rfl (fun w => by go_simp)) hS ?_
      try simp only [Act.put, List.setIfInBounds_toArray, List.set_cons_zero, List.set_cons_succ]
      refine wpAnyH_take (i := 3) (oi := { dst := some 21, op := Op.move (Operand.tmp 1), type := 54, pos := "rest.go:181", after := #[{ on := 2, ground := Ground.guard }], guard := some (2, false) }) (v := (.slice (some ⟨gb, ob, none⟩) n1 c1)) rfl (by kernel_rfl) (by kernel_rfl) (by kernel_rfl) (fun _ _ _ h => h) (yields_of rfl (fun w => by go_simp)) hS ?_
      try simp only [Act.put, List.setIfInBounds_toArray, List.set_cons_zero, List.set_cons_succ]
      refine wpAnyH_take (i := 4) (oi := { dst := some 22, op := Op.move (Operand.tmp 2), type := 3, pos := "rest.go:181", after := #[{ on := 2, ground := Ground.guard }], guard := some (2, false) }) (v := (.int .i64 (i : Int))) rfl (by kernel_rfl) (by kernel_rfl) (by kernel_rfl) (fun _ _ _ h => h) (yields_of rfl (fun w => by go_simp)) hS ?_
      try simp only [Act.put, List.setIfInBounds_toArray, List.set_cons_zero, List.set_cons_succ]
      refine wpAnyH_take (i := 5) (oi := { dst := some 23, op := Op.indexAddr 54 (Operand.tmp 21) (Operand.tmp 22), type := 0, pos := "rest.go:181", after := #[{ on := 3, ground := Ground.data }, { on := 4, ground := Ground.data }, { on := 2, ground := Ground.guard }], guard := some (2, false) }) (v := (.pointer (some ⟨gb, ob + i * 34, none⟩))) rfl (by kernel_rfl) (by kernel_rfl) (by kernel_rfl) (fun _ _ _ h => h) (yields_of rfl (fun w => by go_simp)) hS ?_
      try simp only [Act.put, List.setIfInBounds_toArray, List.set_cons_zero, List.set_cons_succ]
      refine wpAnyH_take (i := 6) (oi := { dst := some 24, op := Op.fieldAddr 62 (Operand.tmp 23) 0, type := 0, pos := "rest.go:181", after := #[{ on := 5, ground := Ground.data }, { on := 2, ground := Ground.guard }], guard := some (2, false) }) (v := (.pointer (some ⟨gb, ob + i * 34, none⟩))) rfl (by kernel_rfl) (by kernel_rfl) (by kernel_rfl) (fun _ _ _ h => h) (yields_of rfl (fun w => by go_simp)) hS ?_
      try simp only [Act.put, List.setIfInBounds_toArray, List.set_cons_zero, List.set_cons_succ]
      refine wpAnyH_take (i := 7) (oi := { dst := some 25, op := Op.load 3 (Operand.tmp 24), type := 3, pos := "rest.go:181", after := #[{ on := 6, ground := Ground.data }, { on := 2, ground := Ground.guard }], guard := some (2, false) }) (v := (.int .i64 (x : Int))) rfl (by kernel_rfl) (by kernel_rfl) (by kernel_rfl) (fun _ _ _ h => h) (.inl ⟨rfl, fun w h => by have e := CW.out w h; go_simp⟩) hS ?_
      try simp only [Act.put, List.setIfInBounds_toArray, List.set_cons_zero, List.set_cons_succ]
      refine wpAnyH_take (i := 8) (oi := { dst := some 26, op := Op.move (Operand.tmp 0), type := 43, pos := "rest.go:181", after := #[{ on := 2, ground := Ground.guard }], guard := some (2, false) }) (v := (.slice A0 n0 c0)) rfl (by kernel_rfl) (by kernel_rfl) (by kernel_rfl) (fun _ _ _ h => h) (yields_of rfl (fun w => by go_simp)) hS ?_
      try simp only [Act.put, List.setIfInBounds_toArray, List.set_cons_zero, List.set_cons_succ]
      refine wpAnyH_take (i := 9) (oi := { dst := some 27, op := Op.call { callee := Callee.builtin Builtin.len, args := #[Operand.tmp 26], argTypes := #[43] }, type := 3, pos := "rest.go:181", after := #[{ on := 8, ground := Ground.data }, { on := 2, ground := Ground.guard }], guard := some (2, false) }) (v := (.int .i64 (n0 : Int))) rfl (by kernel_rfl) (by kernel_rfl) (by kernel_rfl) (fun _ _ _ h => h) (yields_of rfl (fun w => by go_simp)) hS ?_
      try simp only [Act.put, List.setIfInBounds_toArray, List.set_cons_zero, List.set_cons_succ]
      refine wpAnyH_take (i := 10) (oi := { dst := some 28, op := Op.binOp BinOp.geq 3 (Operand.tmp 25) (Operand.tmp 27) 3, type := 4, pos := "rest.go:181", after := #[{ on := 7, ground := Ground.data }, { on := 9, ground := Ground.data }, { on := 2, ground := Ground.guard }], guard := some (2, false) }) (v := (.bool true)) rfl (by kernel_rfl) (by kernel_rfl) (by kernel_rfl) (fun _ _ _ h => h) (yields_of rfl (fun w => by go_simp)) hS ?_
      try simp only [Act.put, List.setIfInBounds_toArray, List.set_cons_zero, List.set_cons_succ]
      refine wpAnyH_take (i := 11) (oi := { dst := some 29, op := Op.pick (Operand.tmp 20) (Operand.const (Value.bool true)) (Operand.tmp 28), type := 4, pos := "rest.go:181", after := #[{ on := 2, ground := Ground.data }, { on := 10, ground := Ground.data }], guard := none }) (v := (.bool true)) rfl (by kernel_rfl) (by kernel_rfl) (by kernel_rfl) (fun _ _ _ h => h) (yields_of rfl (fun w => by go_simp)) hS ?_
      try simp only [Act.put, List.setIfInBounds_toArray, List.set_cons_zero, List.set_cons_succ]
      refine wpAnyH_take (i := 12) (oi := { dst := some 30, op := Op.move (Operand.tmp 29), type := 4, pos := "rest.go:181", after := #[{ on := 11, ground := Ground.data }, { on := 2, ground := Ground.chain }], guard := none }) (v := (.bool true)) rfl (by kernel_rfl) (by kernel_rfl) (by kernel_rfl) (fun _ _ _ h => h) (yields_of rfl (fun w => by go_simp)) hS ?_
      try simp only [Act.put, List.setIfInBounds_toArray, List.set_cons_zero, List.set_cons_succ]
      refine wpAnyH_take (i := 13) (oi := { dst := some 31, op := Op.move (Operand.tmp 7), type := 24, pos := "rest.go:181", after := #[{ on := 12, ground := Ground.guard }], guard := some (12, false) }) (v := undef) rfl (by kernel_rfl) (by kernel_rfl) (by kernel_rfl) (fun _ _ _ h => h) (.inr ⟨rfl, rfl⟩) hS ?_
      try simp only [Act.put, List.setIfInBounds_toArray, List.set_cons_zero, List.set_cons_succ]
      refine wpAnyH_take (i := 15) (oi := { dst := some 33, op := Op.move (Operand.tmp 0), type := 43, pos := "rest.go:181", after := #[{ on := 12, ground := Ground.guard }], guard := some (12, false) }) (v := undef) rfl (by kernel_rfl) (by kernel_rfl) (by kernel_rfl) (fun _ _ _ h => h) (.inr ⟨rfl, rfl⟩) hS ?_
      try simp only [Act.put, List.setIfInBounds_toArray, List.set_cons_zero, List.set_cons_succ]
      refine wpAnyH_take (i := 16) (oi := { dst := some 34, op := Op.move (Operand.tmp 1), type := 54, pos := "rest.go:181", after := #[{ on := 12, ground := Ground.guard }], guard := some (12, false) }) (v := undef) rfl (by kernel_rfl) (by kernel_rfl) (by kernel_rfl) (fun _ _ _ h => h) (.inr ⟨rfl, rfl⟩) hS ?_
      try simp only [Act.put, List.setIfInBounds_toArray, List.set_cons_zero, List.set_cons_succ]
      refine wpAnyH_take (i := 17) (oi := { dst := some 35, op := Op.move (Operand.tmp 2), type := 3, pos := "rest.go:181", after := #[{ on := 12, ground := Ground.guard }], guard := some (12, false) }) (v := undef) rfl (by kernel_rfl) (by kernel_rfl) (by kernel_rfl) (fun _ _ _ h => h) (.inr ⟨rfl, rfl⟩) hS ?_
      try simp only [Act.put, List.setIfInBounds_toArray, List.set_cons_zero, List.set_cons_succ]
      refine wpAnyH_take (i := 18) (oi := { dst := some 36, op := Op.indexAddr 54 (Operand.tmp 34) (Operand.tmp 35), type := 0, pos := "rest.go:181", after := #[{ on := 16, ground := Ground.data }, { on := 17, ground := Ground.data }, { on := 12, ground := Ground.guard }], guard := some (12, false) }) (v := undef) rfl (by kernel_rfl) (by kernel_rfl) (by kernel_rfl) (fun _ _ _ h => h) (.inr ⟨rfl, rfl⟩) hS ?_
      try simp only [Act.put, List.setIfInBounds_toArray, List.set_cons_zero, List.set_cons_succ]
      refine wpAnyH_take (i := 19) (oi := { dst := some 37, op := Op.fieldAddr 62 (Operand.tmp 36) 0, type := 0, pos := "rest.go:181", after := #[{ on := 18, ground := Ground.data }, { on := 12, ground := Ground.guard }], guard := some (12, false) }) (v := undef) rfl (by kernel_rfl) (by kernel_rfl) (by kernel_rfl) (fun _ _ _ h => h) (.inr ⟨rfl, rfl⟩) hS ?_
      try simp only [Act.put, List.setIfInBounds_toArray, List.set_cons_zero, List.set_cons_succ]
      refine wpAnyH_take (i := 20) (oi := { dst := some 38, op := Op.load 3 (Operand.tmp 37), type := 3, pos := "rest.go:181", after := #[{ on := 19, ground := Ground.data }, { on := 12, ground := Ground.guard }], guard := some (12, false) }) (v := undef) rfl (by kernel_rfl) (by kernel_rfl) (by kernel_rfl) (fun _ _ _ h => h) (.inr ⟨rfl, rfl⟩) hS ?_
      try simp only [Act.put, List.setIfInBounds_toArray, List.set_cons_zero, List.set_cons_succ]
      refine wpAnyH_take (i := 21) (oi := { dst := some 39, op := Op.indexAddr 43 (Operand.tmp 33) (Operand.tmp 38), type := 0, pos := "rest.go:181", after := #[{ on := 15, ground := Ground.data }, { on := 20, ground := Ground.data }, { on := 12, ground := Ground.guard }], guard := some (12, false) }) (v := undef) rfl (by kernel_rfl) (by kernel_rfl) (by kernel_rfl) (fun _ _ _ h => h) (.inr ⟨rfl, rfl⟩) hS ?_
      try simp only [Act.put, List.setIfInBounds_toArray, List.set_cons_zero, List.set_cons_succ]
      refine wpAnyH_take (i := 22) (oi := { dst := some 40, op := Op.load 23 (Operand.tmp 39), type := 23, pos := "rest.go:181", after := #[{ on := 21, ground := Ground.data }, { on := 12, ground := Ground.guard }], guard := some (12, false) }) (v := undef) rfl (by kernel_rfl) (by kernel_rfl) (by kernel_rfl) (fun _ _ _ h => h) (.inr ⟨rfl, rfl⟩) hS ?_
      try simp only [Act.put, List.setIfInBounds_toArray, List.set_cons_zero, List.set_cons_succ]
      refine wpAnyH_ready (rs := [14]) (by kernel_rfl) (by simp) ?_
      refine AllReadyH.cons (o := { dst := some 32, op := Op.call { callee := Callee.value (Operand.func 11), args := #[Operand.tmp 31], argTypes := #[24] }, type := 23, pos := "rest.go:181", after := #[{ on := 13, ground := Ground.data }, { on := 12, ground := Ground.chain }, { on := 12, ground := Ground.guard }], guard := some (12, false) }) rfl (fun K hK => ?_) AllReadyH.nil
      go_simp
      refine hK.out _ _ hS (fun hS1 => ?_)
      try simp only [Act.put, List.setIfInBounds_toArray, List.set_cons_zero, List.set_cons_succ]
      refine wpAnyH_take (i := 23) (oi := { dst := some 41, op := Op.binOp BinOp.neq 23 (Operand.tmp 32) (Operand.tmp 40) 23, type := 4, pos := "rest.go:181", after := #[{ on := 14, ground := Ground.data }, { on := 22, ground := Ground.data }, { on := 12, ground := Ground.guard }], guard := some (12, false) }) (v := undef) rfl (by kernel_rfl) (by kernel_rfl) (by kernel_rfl) (fun _ _ _ h => h) (.inr ⟨rfl, rfl⟩) hS1 ?_
      try simp only [Act.put, List.setIfInBounds_toArray, List.set_cons_zero, List.set_cons_succ]
      refine wpAnyH_take (i := 24) (oi := { dst := some 42, op := Op.pick (Operand.tmp 30) (Operand.const (Value.bool true)) (Operand.tmp 41), type := 4, pos := "rest.go:181", after := #[{ on := 12, ground := Ground.data }, { on := 23, ground := Ground.data }], guard := none }) (v := Value.bool true) rfl (by kernel_rfl) (by kernel_rfl) (by kernel_rfl) (fun _ _ _ h => h) (yields_of rfl (fun w => by go_simp)) hS1 ?_
      refine wpAnyH_done (by kernel_rfl) ?_ _
      have E9 := hid (unhid E5).drew
      go_wp2_with fail
      go_ret
      exact ⟨by rw [HRF.out]; rfl, unhid E9⟩
  · have TN := hid (text_no b w HBK.out hvk)
    have hrf : r = false := by
      cases r with
      | false => rfl
      | true => exact absurd (HR.out.1 rfl).1.1 hvk
    have HRF := hid hrf
    clear hvk hrf
    go_wp2_with fail
    refine (unhid TN).mono ?_
    rintro e w5 ⟨rfl, hb5⟩
    have E5 := hid hb5
    clear hb5 TN
    go_wp2_with fail
    refine wp_region_held_drew (S := fun w' => Below w5.heap.size w5 w') (by kernel_rfl) ((Below.refl _ _).drew) (fun hS => ?_)
    refine wpAnyH_take (i := 0) (oi := { dst := some 18, op := Op.move (Operand.tmp 8), type := 4, pos := "rest.go:181", after := #[], guard := none }) (v := (.bool false)) rfl (by kernel_rfl) (by kernel_rfl) (by kernel_rfl) (fun _ _ _ h => h) (yields_of rfl (fun w => by go_simp)) hS ?_
    try simp only [Act.put, List.setIfInBounds_toArray, List.set_cons_zero, List.set_cons_succ]
    refine wpAnyH_take (i := 1) (oi := { dst := some 19, op := Op.unOp UnOp.not 4 (Operand.tmp 18), type := 4, pos := "rest.go:181", after := #[{ on := 0, ground := Ground.data }], guard := none }) (v := (.bool true)) rfl (by kernel_rfl) (by kernel_rfl) (by kernel_rfl) (fun _ _ _ h => h) (yields_of rfl (fun w => by go_simp)) hS ?_
    try simp only [Act.put, List.setIfInBounds_toArray, List.set_cons_zero, List.set_cons_succ]
    refine wpAnyH_take (i := 2) (oi := { dst := some 20, op := Op.move (Operand.tmp 19), type := 4, pos := "rest.go:181", after := #[{ on := 1, ground := Ground.data }], guard := none }) (v := (.bool true)) rfl (by kernel_rfl) (by kernel_rfl) (by kernel_rfl) (fun _ _ _ h => h) (yields_of rfl (fun w => by go_simp)) hS ?_
    try simp only [Act.put, List.setIfInBounds_toArray, List.set_cons_zero, List.set_cons_succ]
    refine wpAnyH_take (i := 3) (oi := { dst := some 21, op := Op.move (Operand.tmp 1), type := 54, pos := "rest.go:181", after := #[{ on := 2, ground := Ground.guard }], guard := some (2, false) }) (v := undef) rfl (by kernel_rfl) (by kernel_rfl) (by kernel_rfl) (fun _ _ _ h => h) (.inr ⟨rfl, rfl⟩) hS ?_
    try simp only [Act.put, List.setIfInBounds_toArray, List.set_cons_zero, List.set_cons_succ]
    refine wpAnyH_take (i := 4) (oi := { dst := some 22, op := Op.move (Operand.tmp 2), type := 3, pos := "rest.go:181", after := #[{ on := 2, ground := Ground.guard }], guard := some (2, false) }) (v := undef) rfl (by kernel_rfl) (by kernel_rfl) (by kernel_rfl) (fun _ _ _ h => h) (.inr ⟨rfl, rfl⟩) hS ?_
    try simp only [Act.put, List.setIfInBounds_toArray, List.set_cons_zero, List.set_cons_succ]
    refine wpAnyH_take (i := 5) (oi := { dst := some 23, op := Op.indexAddr 54 (Operand.tmp 21) (Operand.tmp 22), type := 0, pos := "rest.go:181", after := #[{ on := 3, ground := Ground.data }, { on := 4, ground := Ground.data }, { on := 2, ground := Ground.guard }], guard := some (2, false) }) (v := undef) rfl (by kernel_rfl) (by kernel_rfl) (by kernel_rfl) (fun _ _ _ h => h) (.inr ⟨rfl, rfl⟩) hS ?_
    try simp only [Act.put, List.setIfInBounds_toArray, List.set_cons_zero, List.set_cons_succ]
    refine wpAnyH_take (i := 6) (oi := { dst := some 24, op := Op.fieldAddr 62 (Operand.tmp 23) 0, type := 0, pos := "rest.go:181", after := #[{ on := 5, ground := Ground.data }, { on := 2, ground := Ground.guard }], guard := some (2, false) }) (v := undef) rfl (by kernel_rfl) (by kernel_rfl) (by kernel_rfl) (fun _ _ _ h => h) (.inr ⟨rfl, rfl⟩) hS ?_
    try simp only [Act.put, List.setIfInBounds_toArray, List.set_cons_zero, List.set_cons_succ]
    refine wpAnyH_take (i := 7) (oi := { dst := some 25, op := Op.load 3 (Operand.tmp 24), type := 3, pos := "rest.go:181", after := #[{ on := 6, ground := Ground.data }, { on := 2, ground := Ground.guard }], guard := some (2, false) }) (v := undef) rfl (by kernel_rfl) (by kernel_rfl) (by kernel_rfl) (fun _ _ _ h => h) (.inr ⟨rfl, rfl⟩) hS ?_
    try simp only [Act.put, List.setIfInBounds_toArray, List.set_cons_zero, List.set_cons_succ]
    refine wpAnyH_take (i := 8) (oi := { dst := some 26, op := Op.move (Operand.tmp 0), type := 43, pos := "rest.go:181", after := #[{ on := 2, ground := Ground.guard }], guard := some (2, false) }) (v := undef) rfl (by kernel_rfl) (by kernel_rfl) (by kernel_rfl) (fun _ _ _ h => h) (.inr ⟨rfl, rfl⟩) hS ?_
    try simp only [Act.put, List.setIfInBounds_toArray, List.set_cons_zero, List.set_cons_succ]
    refine wpAnyH_take (i := 9) (oi := { dst := some 27, op := Op.call { callee := Callee.builtin Builtin.len, args := #[Operand.tmp 26], argTypes := #[43] }, type := 3, pos := "rest.go:181", after := #[{ on := 8, ground := Ground.data }, { on := 2, ground := Ground.guard }], guard := some (2, false) }) (v := undef) rfl (by kernel_rfl) (by kernel_rfl) (by kernel_rfl) (fun _ _ _ h => h) (.inr ⟨rfl, rfl⟩) hS ?_
    try simp only [Act.put, List.setIfInBounds_toArray, List.set_cons_zero, List.set_cons_succ]
    refine wpAnyH_take (i := 10) (oi := { dst := some 28, op := Op.binOp BinOp.geq 3 (Operand.tmp 25) (Operand.tmp 27) 3, type := 4, pos := "rest.go:181", after := #[{ on := 7, ground := Ground.data }, { on := 9, ground := Ground.data }, { on := 2, ground := Ground.guard }], guard := some (2, false) }) (v := undef) rfl (by kernel_rfl) (by kernel_rfl) (by kernel_rfl) (fun _ _ _ h => h) (.inr ⟨rfl, rfl⟩) hS ?_
    try simp only [Act.put, List.setIfInBounds_toArray, List.set_cons_zero, List.set_cons_succ]
    refine wpAnyH_take (i := 11) (oi := { dst := some 29, op := Op.pick (Operand.tmp 20) (Operand.const (Value.bool true)) (Operand.tmp 28), type := 4, pos := "rest.go:181", after := #[{ on := 2, ground := Ground.data }, { on := 10, ground := Ground.data }], guard := none }) (v := Value.bool true) rfl (by kernel_rfl) (by kernel_rfl) (by kernel_rfl) (fun _ _ _ h => h) (yields_of rfl (fun w => by go_simp)) hS ?_
    try simp only [Act.put, List.setIfInBounds_toArray, List.set_cons_zero, List.set_cons_succ]
    refine wpAnyH_take (i := 12) (oi := { dst := some 30, op := Op.move (Operand.tmp 29), type := 4, pos := "rest.go:181", after := #[{ on := 11, ground := Ground.data }, { on := 2, ground := Ground.chain }], guard := none }) (v := Value.bool true) rfl (by kernel_rfl) (by kernel_rfl) (by kernel_rfl) (fun _ _ _ h => h) (yields_of rfl (fun w => by go_simp)) hS ?_
    try simp only [Act.put, List.setIfInBounds_toArray, List.set_cons_zero, List.set_cons_succ]
    refine wpAnyH_take (i := 13) (oi := { dst := some 31, op := Op.move (Operand.tmp 7), type := 24, pos := "rest.go:181", after := #[{ on := 12, ground := Ground.guard }], guard := some (12, false) }) (v := undef) rfl (by kernel_rfl) (by kernel_rfl) (by kernel_rfl) (fun _ _ _ h => h) (.inr ⟨rfl, rfl⟩) hS ?_
    try simp only [Act.put, List.setIfInBounds_toArray, List.set_cons_zero, List.set_cons_succ]
    refine wpAnyH_take (i := 15) (oi := { dst := some 33, op := Op.move (Operand.tmp 0), type := 43, pos := "rest.go:181", after := #[{ on := 12, ground := Ground.guard }], guard := some (12, false) }) (v := undef) rfl (by kernel_rfl) (by kernel_rfl) (by kernel_rfl) (fun _ _ _ h => h) (.inr ⟨rfl, rfl⟩) hS ?_
    try simp only [Act.put, List.setIfInBounds_toArray, List.set_cons_zero, List.set_cons_succ]
    refine wpAnyH_take (i := 16) (oi := { dst := some 34, op := Op.move (Operand.tmp 1), type := 54, pos := "rest.go:181", after := #[{ on := 12, ground := Ground.guard }], guard := some (12, false) }) (v := undef) rfl (by kernel_rfl) (by kernel_rfl) (by kernel_rfl) (fun _ _ _ h => h) (.inr ⟨rfl, rfl⟩) hS ?_
    try simp only [Act.put, List.setIfInBounds_toArray, List.set_cons_zero, List.set_cons_succ]
    refine wpAnyH_take (i := 17) (oi := { dst := some 35, op := Op.move (Operand.tmp 2), type := 3, pos := "rest.go:181", after := #[{ on := 12, ground := Ground.guard }], guard := some (12, false) }) (v := undef) rfl (by kernel_rfl) (by kernel_rfl) (by kernel_rfl) (fun _ _ _ h => h) (.inr ⟨rfl, rfl⟩) hS ?_
    try simp only [Act.put, List.setIfInBounds_toArray, List.set_cons_zero, List.set_cons_succ]
    refine wpAnyH_take (i := 18) (oi := { dst := some 36, op := Op.indexAddr 54 (Operand.tmp 34) (Operand.tmp 35), type := 0, pos := "rest.go:181", after := #[{ on := 16, ground := Ground.data }, { on := 17, ground := Ground.data }, { on := 12, ground := Ground.guard }], guard := some (12, false) }) (v := undef) rfl (by kernel_rfl) (by kernel_rfl) (by kernel_rfl) (fun _ _ _ h => h) (.inr ⟨rfl, rfl⟩) hS ?_
    try simp only [Act.put, List.setIfInBounds_toArray, List.set_cons_zero, List.set_cons_succ]
    refine wpAnyH_take (i := 19) (oi := { dst := some 37, op := Op.fieldAddr 62 (Operand.tmp 36) 0, type := 0, pos := "rest.go:181", after := #[{ on := 18, ground := Ground.data }, { on := 12, ground := Ground.guard }], guard := some (12, false) }) (v := undef) rfl (by kernel_rfl) (by kernel_rfl) (by kernel_rfl) (fun _ _ _ h => h) (.inr ⟨rfl, rfl⟩) hS ?_
    try simp only [Act.put, List.setIfInBounds_toArray, List.set_cons_zero, List.set_cons_succ]
    refine wpAnyH_take (i := 20) (oi := { dst := some 38, op := Op.load 3 (Operand.tmp 37), type := 3, pos := "rest.go:181", after := #[{ on := 19, ground := Ground.data }, { on := 12, ground := Ground.guard }], guard := some (12, false) }) (v := undef) rfl (by kernel_rfl) (by kernel_rfl) (by kernel_rfl) (fun _ _ _ h => h) (.inr ⟨rfl, rfl⟩) hS ?_
    try simp only [Act.put, List.setIfInBounds_toArray, List.set_cons_zero, List.set_cons_succ]
    refine wpAnyH_take (i := 21) (oi := { dst := some 39, op := Op.indexAddr 43 (Operand.tmp 33) (Operand.tmp 38), type := 0, pos := "rest.go:181", after := #[{ on := 15, ground := Ground.data }, { on := 20, ground := Ground.data }, { on := 12, ground := Ground.guard }], guard := some (12, false) }) (v := undef) rfl (by kernel_rfl) (by kernel_rfl) (by kernel_rfl) (fun _ _ _ h => h) (.inr ⟨rfl, rfl⟩) hS ?_
    try simp only [Act.put, List.setIfInBounds_toArray, List.set_cons_zero, List.set_cons_succ]
    refine wpAnyH_take (i := 22) (oi := { dst := some 40, op := Op.load 23 (Operand.tmp 39), type := 23, pos := "rest.go:181", after := #[{ on := 21, ground := Ground.data }, { on := 12, ground := Ground.guard }], guard := some (12, false) }) (v := undef) rfl (by kernel_rfl) (by kernel_rfl) (by kernel_rfl) (fun _ _ _ h => h) (.inr ⟨rfl, rfl⟩) hS ?_
    try simp only [Act.put, List.setIfInBounds_toArray, List.set_cons_zero, List.set_cons_succ]
    refine wpAnyH_ready (rs := [14]) (by kernel_rfl) (by simp) ?_
    refine AllReadyH.cons (o := { dst := some 32, op := Op.call { callee := Callee.value (Operand.func 11), args := #[Operand.tmp 31], argTypes := #[24] }, type := 23, pos := "rest.go:181", after := #[{ on := 13, ground := Ground.data }, { on := 12, ground := Ground.chain }, { on := 12, ground := Ground.guard }], guard := some (12, false) }) rfl (fun K hK => ?_) AllReadyH.nil
    go_simp
    refine hK.out _ _ hS (fun hS1 => ?_)
    try simp only [Act.put, List.setIfInBounds_toArray, List.set_cons_zero, List.set_cons_succ]
    refine wpAnyH_take (i := 23) (oi := { dst := some 41, op := Op.binOp BinOp.neq 23 (Operand.tmp 32) (Operand.tmp 40) 23, type := 4, pos := "rest.go:181", after := #[{ on := 14, ground := Ground.data }, { on := 22, ground := Ground.data }, { on := 12, ground := Ground.guard }], guard := some (12, false) }) (v := undef) rfl (by kernel_rfl) (by kernel_rfl) (by kernel_rfl) (fun _ _ _ h => h) (.inr ⟨rfl, rfl⟩) hS1 ?_
    try simp only [Act.put, List.setIfInBounds_toArray, List.set_cons_zero, List.set_cons_succ]
    refine wpAnyH_take (i := 24) (oi := { dst := some 42, op := Op.pick (Operand.tmp 30) (Operand.const (Value.bool true)) (Operand.tmp 41), type := 4, pos := "rest.go:181", after := #[{ on := 12, ground := Ground.data }, { on := 23, ground := Ground.data }], guard := none }) (v := Value.bool true) rfl (by kernel_rfl) (by kernel_rfl) (by kernel_rfl) (fun _ _ _ h => h) (yields_of rfl (fun w => by go_simp)) hS1 ?_
    refine wpAnyH_done (by kernel_rfl) ?_ _
    have E9 := hid (unhid E5).drew
    go_wp2_with fail
    go_ret
    exact ⟨by rw [HRF.out]; rfl, unhid E9⟩
end Go.Proofs.YtlaoijnlemgdfaaDoor
