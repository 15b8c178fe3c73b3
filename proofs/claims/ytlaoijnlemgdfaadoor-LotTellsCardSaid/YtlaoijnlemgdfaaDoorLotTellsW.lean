/- The walk of the law LotTells. -/
import Derived.Test.YtlaoijnlemgdfaaDoorLotRefW
import Derived.Test.YtlaoijnlemgdfaaDoorMixW
import Derived.Test.YtlaoijnlemgdfaaDoorIntsW
import Derived.Test.YtlaoijnlemgdfaaDoorNats
import Derived.Deep.RegionHeld3
namespace Go.Proofs.YtlaoijnlemgdfaaDoor
set_option linter.unusedVariables false
open Go.RowKit Go.Mny
theorem noGuardL : Tryd.prog.eqGuardType Tryd.prog.depth 23 = false := by kernel_rfl
theorem yields_neqD {P : Program} {t e n : Nat} {k : IntKind} (T : ArrI P t e n k) (hg : P.eqGuardType P.depth t = false) {ops : Array Oper} {S : World → Prop} {o : Oper} {a : Act} (hw : Region.wanted o (yielded ops a.tmps) = true)
    (x y : Operand) (yt : TypeId) (ho : o.op = .binOp .neq t x y yt) {l1 l2 : List Int} (hx : a.eval x = .agg (cellsOf k l1)) (hy : a.eval y = .agg (cellsOf k l2)) (h1 : l1.length = n) (h2 : l2.length = n)
    {b : Bool} (hb : b = decide (l1 ≠ l2)) : YieldsIf P ops S o (.bool b) a := by
  refine .inl ⟨hw, fun w _ => ?_⟩
  have e1 : (binOp .neq t (.agg (cellsOf k l1)) (.agg (cellsOf k l2))).run P w = .ok (.bool b) w := by
    rw [run_neq_struct, run_eq_arr T w 9998 l1 l2 h1 h2, hb]; by_cases h : l1 = l2 <;> simp [h]
  have e2 : (eqGuard .neq t x y (.agg (cellsOf k l1)) (.agg (cellsOf k l2))).run P w = .ok () w := by
    unfold eqGuard; simp [run_program, Sem.run_bind, hg]
  unfold execOp
  simp only [ho, hx, hy, Sem.run_bind, Sem.run_pure, Result.andThen_ok, e1, e2]
set_option maxHeartbeats 4000000 in
set_option maxRecDepth 100000 in
theorem lotTells_walk (A0 : Option Addr) (n0 c0 m0 : Nat) (l1 : List Int) (a2 : Int) (a3 : Int) (w : World) (s0 : Sh.ok w w.heap.size (.slice 32 (.arr 32 1 (.int .u8))) m0 [.slice A0 n0 c0]) (q1 : l1.length = 32) (f1 : ∀ z ∈ l1, (Lit.int .u8 z).wf = true) (f2 : (Lit.int .i64 a2).wf = true) (f3 : (Lit.int .i64 a3).wf = true) (hL : Laid w) (h0 : 1 < w.heap.size) (hH : Hdl w) :
    Calls Tryd.prog 6 #[.slice A0 n0 c0, .agg (l1.map (Value.int .u8)).toArray, .int .i64 a2, .int .i64 a3] w fun e w' => e = .returned (.bool true) ∧ Below w.heap.size w w' := by
  have hn : n0 ≤ 9223372036854775807 := by
    obtain ⟨A, n, c, es, f, hv, h1, h2, _⟩ := s0
    simp only [List.cons.injEq, Value.slice.injEq, and_true] at hv
    obtain ⟨_, rfl, rfl⟩ := hv
    unfold maxLen at h2; omega
  obtain ⟨A, n, c, L, hv, hc1, hc2, hR, hLL, h8, hm⟩ := Sh.digests s0
  injection hv with e1 e2 e3
  subst e1 e2 e3
  obtain ⟨d, rfl, d8⟩ := nats_of f1
  rw [up_len] at q1
  have v2 := bounds_i64 f2
  have v3 := bounds_i64 f3
  have HR := hid hR; have HLL := hid hLL; have H8 := hid (show ∀ l ∈ L, l.length = 32 ∧ By8 l from fun l hl => ⟨(h8 l hl).1, By8.of_wf (h8 l hl).2⟩)
  have HL := hid hL; have D8 := hid d8; have HD := hid q1; have HH := hid hH
  clear s0 hR hLL h8 f1 f2 f3 hm hc2 hL d8 q1 hH
  change Calls _ _ #[_, .agg (cellsOf .u8 (up d)), _, _] _ _
  go_enter Tryd.func6, Tryd.ntmps6
  go_wp2_with (with_reducible refine halt_op (some 5) (.box _ _) (fun K hK => ?_))
  refine go_on hK ?_; clear hK
  refine box_arr (k := .u8) (l := up d) rfl (.tmp 1) rfl rfl ?_
  rintro g5 w1 hg5 s1 b1 e1
  have hz : w.heap.size ≤ g5 := by omega
  have hz1 : g5 < w1.heap.size := by omega
  have e1' := e1.mono (show w.heap.size ≤ g5 by omega)
  clear hg5 s1 e1
  go_wp2_with (with_reducible refine halt_op (some 9) (.alloc _) (fun K hK => ?_))
  refine go_on hK ?_; clear hK
  refine alloc_arr digT rfl rfl ?_
  rintro g9 w2 hg9 s2 b2 e2
  have hz5 : g5 < g9 := by omega
  have hz9 : g9 < w2.heap.size := by omega
  have B5 := hid (b1.below e2 (by omega)); have B9 := hid b2
  have E2 := hid (e1'.trans (e2.mono (by omega)))
  have R2 := hid ((unhid HR).below (unhid E2))
  clear b1 b2 e1' e2 s2 hg9 HR
  go_wp2_with fail
  go_loopw [10] (fun v10 wr => ∃ k : Nat, k ≤ n0 ∧ v10 = .int .i64 k ∧ Hid (Blk wr g9 23 (cellsOf .u8 (mixL (L.take k)))) ∧ Hid (Kept (fun j => j = g9) w2 wr)) (fun v10 _ => n0 - (intOf v10).toNat)
  case atStart => exact ⟨0, Nat.zero_le _, rfl, B9, Kept.refl _ _⟩
  case round =>
    obtain ⟨k, hk, rfl, HB, HK⟩ := hrel
    have mo := mix_ok (L.take k) zeros (fun l hl => H8.out l (List.mem_of_mem_take hl)) (by simp [zeros]) zeros_by
    by_cases hlt : k < n0
    · obtain ⟨e, he⟩ : ∃ e, L[k]? = some e := ⟨_, List.getElem?_eq_getElem (by rw [HLL.out]; exact hlt)⟩
      have he8 := H8.out e (List.mem_of_getElem? he)
      have EL := hid he8.1; have E8 := hid he8.2; clear he8
      obtain ⟨g, o, rfl, hg, _⟩ := (unhid R2).elem hlt
      have CD : Hid (∀ w', Kept (fun j => j = g9) w2 w' → ∀ (j : Nat) (y : Int), e[j]? = some y → w'.cell? ⟨g, o + k * 32 + j, none⟩ = some (.int .u8 y)) := hid fun w' hk' j y hy => by
        obtain ⟨g', o', e', _, hr⟩ := ((unhid R2).kept (by omega) hk' (fun q _ hq => by omega)).elem hlt
        injection e' with e'; injection e' with e1' e2'; subst e1'; subst e2'
        have hr := hr.out
        rw [← List.map_drop, ← List.map_take, flat_at (fun l hl => (H8.out l hl).1) he] at hr
        exact hr j _ (by rw [List.getElem?_map, hy]; rfl)
      have mk1 : Hid (mixL (L.take (k + 1)) = List.zipWith xi (mixL (L.take k)) e) := by
        show _ = _
        rw [List.take_add_one, he]; simp [mixL, List.foldl_append]
      have ML := hid (show (mixL (L.take k)).length = 32 from mo.1)
      have M8 := hid (show By8 (mixL (L.take k)) from mo.2)
      generalize mixL (L.take k) = o1 at *
      clear mo he
      have i1 : (0 : Int) ≤ (k : Int) := by omega
      have i2 : (k : Int) < (n0 : Int) := by omega
      go_wp2_with fail
      go_loopw [11] (fun v11 wq => ∃ j : Nat, j ≤ 32 ∧ v11 = .int .i64 j ∧ Hid (Blk wq g9 23 (cellsOf .u8 (upTo o1 e j))) ∧ Hid (Kept (fun j => j = g9) w2 wq)) (fun v11 _ => 32 - (intOf v11).toNat)
      case atStart => exact ⟨0, Nat.zero_le _, rfl, by simpa [upTo] using HB, HK⟩
      case round =>
        obtain ⟨j, hj, rfl, HC, HF⟩ := hrel
        by_cases hj2 : j < 32
        · obtain ⟨y, hy⟩ : ∃ y, e[j]? = some y := ⟨_, List.getElem?_eq_getElem (by rw [EL.out]; exact hj2)⟩
          obtain ⟨x, hx⟩ : ∃ x, o1[j]? = some x := ⟨_, List.getElem?_eq_getElem (by rw [ML.out]; exact hj2)⟩
          have hxy := u8_xi (M8.out x (List.mem_of_getElem? hx)) (E8.out y (List.mem_of_getElem? hy))
          have hc : wr.cell? ⟨g9, j, none⟩ = some (.int .u8 x) := by rw [(unhid HC).cell, cellsOf_get, upTo_at ML.out EL.out hj2, hx]; rfl
          have hf := (unhid HC).free j
          have hd := CD.out _ (unhid HF) j y hy
          have hset := hid (upTo_set ML.out EL.out hj2 hx hy)
          clear hx hy
          have j1 : (0 : Int) ≤ (j : Int) := by omega
          have j2 : (j : Int) < 32 := by omega
          go_wp2_with fail
          go_region
          have b4 := ((unhid HC).put j (.int .u8 (xi x y))).drew
          rw [cellsOf_set, hset.out] at b4
          have B4 := hid b4
          have K4 := hid ((unhid HF).set ⟨g9, j, none⟩ (fun _ => rfl) (.int .u8 (xi x y))).drew
          clear b4 hc hf hd
          generalize (wr.setCell ⟨g9, j, none⟩ (.int .u8 (xi x y))).drew = w4 at B4 K4 ⊢
          go_wp2_with fail
          go_roundw
          case rel => exact ⟨j + 1, by omega, by go_num, B4, K4⟩
          case measure => simp [intOf]; omega
        · have hj32 : j = 32 := by omega
          subst hj32
          have HC2 : Hid (Blk wr g9 23 (cellsOf .u8 (mixL (L.take (k + 1))))) := by
            have := HC.out
            rw [upTo_all ML.out EL.out, ← mk1.out] at this
            exact this
          clear HC
          go_wp2_with fail
          go_roundw
          case rel => exact ⟨k + 1, by omega, by go_num, HC2, HF⟩
          case measure => simp [intOf]; omega
    · have hkn : k = n0 := by omega
      subst hkn
      rw [← HLL.out, List.take_length] at HB mo
      have ML := hid (show (mixL L).length = 32 from mo.1)
      have EK := hid ((unhid E2).trans ((unhid HK).below (D := w.heap.size) (by omega) (fun j hj h => by omega)))
      have BK := hid ((unhid B5).kept (unhid HK) (by omega))
      have hzr : w.heap.size ≤ wr.heap.size := (unhid EK).size
      have hk9 := (unhid HB).lt'
      have hk5 := (unhid BK).lt'
      have C1 : Hid (∀ w', Below wr.heap.size wr w' → Calls Tryd.prog 19 #[.slice A0 L.length c0] w' fun e w'' => e = .returned (.agg (cellsOf .u8 (mixL L))) ∧ Below wr.heap.size wr w'') := hid fun w' hb => by
        have r : Row w' w.heap.size 32 A0 L.length (L.flatten.map (Value.int .u8)) := by
          have := (((unhid R2).kept (by omega) (unhid HK) (fun q _ hq => by omega)).below (hb.mono hzr))
          rwa [← HLL.out] at this
        exact (mix_any A0 L.length c0 L w' (r.more (by have := hb.size; omega)) rfl H8.out (by have := HLL.out; omega)).mono fun e w'' h => ⟨h.1, hb.trans (h.2.mono hb.size)⟩
      have LM : Hid (∀ w', Below wr.heap.size wr w' → w'.rangeAt g9 0 ((mixL L).map (Value.int .u8))) := hid fun w' hb => ((unhid HB).below hb hk9).range
      obtain ⟨M, hM⟩ : ∃ M, mixL L = M := ⟨_, rfl⟩
      rw [hM] at ML C1 LM
      have hLn := HLL.out
      rw [← hLn]
      clear hM mo HB HLL H8 B5 B9 R2 E2 hLn
      go_wp2_with fail
      refine wp_region_held_drew (S := fun w' => Below wr.heap.size wr w') (by kernel_rfl) (Below.refl _ _).drew (fun hS => ?_)
      refine wpAnyH_take (i := 0) (oi := { dst := some 44, op := Op.move (Operand.tmp 0), type := 43, pos := "shares.go:424", after := #[], guard := none }) (v := (.slice A0 L.length c0)) rfl (by kernel_rfl) (by kernel_rfl) (by kernel_rfl) (fun _ _ _ h => h) (yields_of rfl (fun w => by go_simp)) hS ?_
      try simp only [Act.put, List.setIfInBounds_toArray, List.set_cons_zero, List.set_cons_succ]
      refine wpAnyH_take (i := 2) (oi := { dst := some 46, op := Op.load 23 (Operand.tmp 9), type := 23, pos := "shares.go:424", after := #[], guard := none }) (v := (.agg (cellsOf .u8 M))) rfl (by kernel_rfl) (by kernel_rfl) (by kernel_rfl) (fun _ _ _ h => h) (yields_load digT rfl (.tmp 9) rfl rfl ML.out (fun w h => LM.out w h)) hS ?_
      try simp only [Act.put, List.setIfInBounds_toArray, List.set_cons_zero, List.set_cons_succ]
      refine wpAnyH_ready (rs := [1]) (by kernel_rfl) (by simp) ?_
      refine AllReadyH.cons (o := { dst := some 45, op := Op.call { callee := Callee.value (Operand.func 19), args := #[Operand.tmp 44], argTypes := #[43] }, type := 23, pos := "shares.go:424", after := #[{ on := 0, ground := Ground.data }], guard := none }) rfl (fun K hK => ?_) AllReadyH.nil
      go_simp
      refine (unhid C1 _ hS).mono ?_
      rintro e wq1 ⟨rfl, hb1⟩
      go_wp2_with fail
      refine hK.out _ _ hb1 (fun hS1 => ?_)
      try simp only [Act.put, List.setIfInBounds_toArray, List.set_cons_zero, List.set_cons_succ]
      refine wpAnyH_take (i := 3) (oi := { dst := some 47, op := Op.binOp BinOp.neq 23 (Operand.tmp 45) (Operand.tmp 46) 23, type := 4, pos := "shares.go:424", after := #[{ on := 1, ground := Ground.data }, { on := 2, ground := Ground.data }], guard := none }) (v := (.bool false)) rfl (by kernel_rfl) (by kernel_rfl) (by kernel_rfl) (fun _ _ _ h => h) (yields_neqD digT noGuardL rfl (.tmp 45) (.tmp 46) 23 rfl rfl rfl ML.out ML.out (by simp)) hS1 ?_
      refine wpAnyH_done (by kernel_rfl) ?_ _
      have B3 := hid ((unhid BK).below hb1 hk5)
      have E3 := hid ((unhid EK).trans (hb1.mono hzr))
      clear C1 LM hS hS1 hb1 HK BK EK
      by_cases hr : a2 < 1 ∨ 2147483647 < a2
      case' pos =>
        have hcase : a2 < 1 ∨ (1 ≤ a2 ∧ 2147483647 < a2) := by omega
        rcases hcase with h | ⟨h1, h2⟩
        all_goals
          go_wp2_with (with_reducible refine halt_op (some 58) (.load _ _) (fun K hK => ?_))
          refine go_on hK ?_; clear hK
          refine load_arr digT rfl (.tmp 5) rfl rfl (unhid B3) (by rw [up_len]; exact HD.out) ?_
          go_wp2_with fail
          refine (pick_no d a2 _ hr).mono ?_
          rintro e w4 ⟨rfl, hb4⟩
          have E4 := hid ((unhid E3).trans (hb4.mono (unhid E3).size)); have B4 := hid ((unhid B3).below hb4 (unhid B3).lt')
          go_wp2_with fail
          refine (error_err 2 2 (by decide) _ ((unhid HH).of_below (unhid E4))).mono ?_
          rintro e w5 ⟨rfl, hb5⟩
          rw [show ((2 : Int) == 2) = true from rfl]
          have E5 := hid ((unhid E4).trans (hb5.mono (unhid E4).size)); have B5 := hid ((unhid B4).below hb5 (unhid B4).lt')
          clear hb4 hb5 E4 B4 E3 B3 hr
      case' neg =>
        obtain ⟨p, rfl⟩ := Int.eq_ofNat_of_zero_le (show 0 ≤ a2 by omega)
        have h1 : (1 : Int) ≤ (p : Int) := by omega
        have h2 : (p : Int) ≤ 2147483647 := by omega
        clear hr
        go_wp2_with (with_reducible refine halt_op (some 54) (.load _ _) (fun K hK => ?_))
        refine go_on hK ?_; clear hK
        refine load_arr digT rfl (.tmp 5) rfl rfl (unhid B3) (by rw [up_len]; exact HD.out) ?_
        go_wp2_with fail
        refine (picked_any d p _ HD.out D8.out (by omega)).mono ?_
        rintro e w3 ⟨rfl, hb3⟩
        have E3' := hid ((unhid E3).trans (hb3.mono (unhid E3).size)); have B3' := hid ((unhid B3).below hb3 (unhid B3).lt')
        go_wp2_with (with_reducible refine halt_op (some 58) (.load _ _) (fun K hK => ?_))
        refine go_on hK ?_; clear hK
        refine load_arr digT rfl (.tmp 5) rfl rfl (unhid B3') (by rw [up_len]; exact HD.out) ?_
        go_wp2_with fail
        refine (pick_ok d p _ HD.out D8.out (by omega) (by omega)).mono ?_
        rintro e w4 ⟨rfl, hb4⟩
        have E4 := hid ((unhid E3').trans (hb4.mono (unhid E3').size)); have B4 := hid ((unhid B3').below hb4 (unhid B3').lt')
        go_wp2_with fail
        refine (error_nil 0 _ ((unhid HH).of_below (unhid E4))).mono ?_
        rintro e w5 ⟨rfl, hb5⟩
        rw [show ((0 : Int) == 0) = true from rfl]
        have E5 := hid ((unhid E4).trans (hb5.mono (unhid E4).size)); have B5 := hid ((unhid B4).below hb5 (unhid B4).lt')
        clear hb3 hb4 hb5 E4 B4 E3' B3' E3 B3
      all_goals
        by_cases hr : a3 < 0 ∨ 1000 < a3
        case' pos =>
          have hcase : a3 < 0 ∨ (0 ≤ a3 ∧ 1000 < a3) := by omega
          rcases hcase with h | ⟨h1, h2⟩
          all_goals
            go_wp2_with (with_reducible refine halt_op (some 83) (.load _ _) (fun K hK => ?_))
            refine go_on hK ?_; clear hK
            refine load_arr digT rfl (.tmp 5) rfl rfl (unhid B5) (by rw [up_len]; exact HD.out) ?_
            go_wp2_with fail
            refine (order_no d a3 _ hr).mono ?_
            rintro e w6 ⟨rfl, hb6⟩
            have E6 := hid ((unhid E5).trans (hb6.mono (unhid E5).size)); have B6 := hid ((unhid B5).below hb6 (unhid B5).lt')
            go_wp2_with fail
            refine (error_err 2 2 (by decide) _ ((unhid HH).of_below (unhid E6))).mono ?_
            rintro e w7 ⟨rfl, hb7⟩
            rw [show ((2 : Int) == 2) = true from rfl]
            have E7 := hid ((unhid E6).trans (hb7.mono (unhid E6).size)); have B7 := hid ((unhid B6).below hb7 (unhid B6).lt')
            clear hb6 hb7 E6 B6 E5 B5 hr
            go_wp2_with fail
            refine (ints_any none none 0 0 0 0 0 0 [] [] _ (Row.nil _ _ _ _) (Row.nil _ _ _ _) (by decide) (by decide)).mono ?_
            rintro e w8 ⟨k, rfl, hw8⟩
            rw [show decide (([] : List Int) = []) = true from rfl]
        case' neg =>
          obtain ⟨q, rfl⟩ := Int.eq_ofNat_of_zero_le (show 0 ≤ a3 by omega)
          have h1 : (0 : Int) ≤ (q : Int) := by omega
          have h2 : (q : Int) ≤ 1000 := by omega
          clear hr
          go_wp2_with (with_reducible refine halt_op (some 79) (.load _ _) (fun K hK => ?_))
          refine go_on hK ?_; clear hK
          refine load_arr digT rfl (.tmp 5) rfl rfl (unhid B5) (by rw [up_len]; exact HD.out) ?_
          go_wp2_with fail
          refine (ordered_any d q _ HD.out D8.out (by omega)).mono ?_
          rintro e w5' ⟨AO, cO, rfl, rO, hb5'⟩
          have E5' := hid ((unhid E5).trans (hb5'.mono (unhid E5).size)); have B5' := hid ((unhid B5).below hb5' (unhid B5).lt')
          have RO := hid rO
          clear rO hb5'
          go_wp2_with (with_reducible refine halt_op (some 83) (.load _ _) (fun K hK => ?_))
          refine go_on hK ?_; clear hK
          refine load_arr digT rfl (.tmp 5) rfl rfl (unhid B5') (by rw [up_len]; exact HD.out) ?_
          go_wp2_with fail
          refine (order_any d q _ HD.out D8.out (by omega) ((unhid HL).below (unhid E5') h0) (by have := (unhid E5').size; omega)).mono ?_
          rintro e w6 ⟨AY, rfl, rY, hb6⟩
          have E6 := hid ((unhid E5').trans (hb6.mono (unhid E5').size)); have B6 := hid ((unhid B5').below hb6 (unhid B5').lt')
          have RO6 := hid ((unhid RO).below hb6)
          have RY := hid rY
          have hz56 := hb6.size
          clear hb6 rY RO
          go_wp2_with fail
          refine (error_nil 0 _ ((unhid HH).of_below (unhid E6))).mono ?_
          rintro e w7 ⟨rfl, hb7⟩
          rw [show ((0 : Int) == 0) = true from rfl]
          have E7 := hid ((unhid E6).trans (hb7.mono (unhid E6).size)); have B7 := hid ((unhid B6).below hb7 (unhid B6).lt')
          have RO7 := hid ((unhid RO6).below (hb7.mono hz56))
          have RY7 := hid ((unhid RY).below hb7)
          clear hb7 E6 B6 RO6 RY E5 B5 E5' B5'
          go_wp2_with fail
          refine (ints_any AY AO q q q cO _ _ (up (orderN d q)) (up (orderN d q)) _ (unhid RY7) (unhid RO7) (by omega) (by omega)).mono ?_
          rintro e w8 ⟨k, rfl, hw8⟩
          rw [show decide (up (orderN d q) = up (orderN d q)) = true by simp]
        all_goals
          have E8 : Hid (Below w.heap.size w w8) := hid (by rw [← hw8]; exact (unhid E7).drewN k)
          have B8 : Hid (Blk w8 g5 23 (cellsOf .u8 (up d))) := hid (by rw [← hw8]; exact (unhid B7).drewN k)
          clear hw8 E7 B7
          go_wp2_with (with_reducible refine halt_op (some 95) (.load _ _) (fun K hK => ?_))
          refine go_on hK ?_; clear hK
          refine load_arr digT rfl (.tmp 5) rfl rfl (unhid B8) (by rw [up_len]; exact HD.out) ?_
          go_wp2_with fail
          refine (order_any d 2 _ HD.out D8.out (by decide) ((unhid HL).below (unhid E8) h0) (by have := (unhid E8).size; omega)).mono ?_
          rintro e w9 ⟨AZ, rfl, rZ, hb9⟩
          have E9 := hid ((unhid E8).trans (hb9.mono (unhid E8).size))
          clear hb9 rZ E8 B8
          go_wp2_with fail
          go_ret
          exact ⟨by simp, unhid E9⟩
end Go.Proofs.YtlaoijnlemgdfaaDoor
