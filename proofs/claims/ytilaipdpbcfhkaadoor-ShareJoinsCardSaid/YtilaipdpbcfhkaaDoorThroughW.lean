/- The walk of share.Through. -/
import Derived.Test.YtilaipdpbcfhkaaDoorWeightsW
import Derived.Test.YtilaipdpbcfhkaaDoorMake
import Derived.Deep.RegionHeld
namespace Go.Proofs.YtilaipdpbcfhkaaDoor
set_option linter.unusedVariables false
open Go.RowKit Go.Mny
/-- place k's sum over the first i rows -/
def tv (ws : List Nat) (R : List (List Nat)) (k : Nat) : Nat → Nat
  | 0 => 0
  | i + 1 => tv ws R k i ^^^ Fld.mul (ws.getD i 0) ((R.getD i []).getD k 0)
def outT (ws : List Nat) (R : List (List Nat)) (m i : Nat) : List Nat := (List.range m).map fun k => tv ws R k i
def outP (ws : List Nat) (R : List (List Nat)) (m i k : Nat) : List Nat := (List.range m).map fun q => if q < k then tv ws R q (i + 1) else tv ws R q i
theorem outP_len (ws : List Nat) (R : List (List Nat)) (m i k : Nat) : (outP ws R m i k).length = m := by simp [outP]
theorem outP_zero (ws : List Nat) (R : List (List Nat)) (m i : Nat) : outP ws R m i 0 = outT ws R m i := by simp [outP, outT]
theorem outP_all (ws : List Nat) (R : List (List Nat)) (m i : Nat) : outP ws R m i m = outT ws R m (i + 1) := by
  unfold outP outT
  refine List.map_congr_left fun q hq => ?_
  rw [if_pos (List.mem_range.1 hq)]
theorem outP_get (ws : List Nat) (R : List (List Nat)) (m i k : Nat) (hk : k < m) : (outP ws R m i k)[k]? = some (tv ws R k i) := by
  simp [outP, List.getElem?_range hk]
theorem outP_set (ws : List Nat) (R : List (List Nat)) (m i k : Nat) (hk : k < m) : (outP ws R m i k).set k (tv ws R k (i + 1)) = outP ws R m i (k + 1) := by
  refine List.ext_getElem? fun j => ?_
  by_cases hj : j < m
  · by_cases hjk : j = k
    · subst hjk
      rw [List.getElem?_set_self (by rw [outP_len]; exact hj)]
      simp [outP, List.getElem?_range hj]
    · rw [List.getElem?_set_ne (by omega)]
      simp only [outP, List.getElem?_map, List.getElem?_range hj, Option.map_some]
      congr 1
      by_cases h : j < k
      · rw [if_pos h, if_pos (by omega)]
      · rw [if_neg h, if_neg (by omega)]
  · rw [List.getElem?_eq_none (by rw [List.length_set, outP_len]; omega), List.getElem?_eq_none (by rw [outP_len]; omega)]
theorem byt_set (l : List Nat) (i x : Nat) : (byt l).set i (.int .u8 (x : Int)) = byt (l.set i x) := by simp [byt, List.map_set]
theorem wgt_by (at_ : List Nat) (x n : Nat) : By8s (wgtN at_ x n) := by
  intro y hy
  obtain ⟨i, _, rfl⟩ := List.mem_map.1 hy
  exact Fld.wt_lt _ _ _ _ (by decide)
theorem tv_lt (ws : List Nat) (R : List (List Nat)) (k : Nat) (hw : By8s ws) : ∀ i, tv ws R k i < 256
  | 0 => by show 0 < 256; decide
  | i + 1 => Fld.xor_lt _ _ (tv_lt ws R k hw i) (Fld.mul_lt _ _ (getD_by hw i))
theorem Mat.all {w : World} {D n : Nat} {A : Option Addr} {M : List (List Nat)} (h : Mat w D A n M) {i : Nat} (hi : i < n) :
    ∃ (g o : Nat) (m : List Nat) (A' : Option Addr) (c' : Nat), A = some ⟨g, o, none⟩ ∧ Hid (M[i]? = some m) ∧ m.length ≤ c' ∧ Hid (∀ W, Below D w W → W.cell? ⟨g, o + i, none⟩ = some (Value.slice A' m.length c') ∧ Row W D 1 A' m.length (byt m)) := by
  obtain ⟨es, h1, h2, h3⟩ := h
  obtain ⟨g, o, e1, e2, e4⟩ := h1.cells (by omega)
  have hm : M[i]? = some (M[i]'(by omega)) := List.getElem?_eq_getElem _
  obtain ⟨A', c', f1, f2, f3⟩ := h3 i _ hm
  refine ⟨g, o, _, A', c', e1, hm, f2, hid fun W hb => ⟨?_, f3.below hb⟩⟩
  rw [hb.cell (p := ⟨g, o + i, none⟩) e2, e4 i (by rw [h1.len]; omega), f1]
def ThrP (at_ : List Nat) (R : List (List Nat)) (x n m : Nat) (w : World) (e : Ending) (w' : World) : Prop :=
  ∃ A, e = .returned (.slice A m m) ∧ Row w' w'.heap.size 1 A m (byt (outT (wgtN at_ x n) R m n)) ∧ Below w.heap.size w w'
set_option maxHeartbeats 4000000 in
set_option maxRecDepth 100000 in
theorem through_any (at_ : List Nat) (R : List (List Nat)) (x : Nat) (A A' : Option Addr) (n c c' D m : Nat) (w : World) (hr : Row w D 1 A n (byt at_)) (hM : Mat w D A' n R) (hD : D ≤ w.heap.size) (hn : n ≤ 1048576) (h1 : 1 ≤ n) (hm : m ≤ 140737488351232) (a8 : By8s at_) (r8 : ∀ r ∈ R, By8s r) (hl : ∀ r ∈ R, r.length = m) (hx : x < 256) :
    Calls Tryd.prog 32 #[.slice A n c, .slice A' n c', .int .u8 (x : Int)] w (ThrP at_ R x n m w) := by
  have HR := hid hr; have HM := hid hM; have A8 := hid a8; have R8 := hid r8; have HL := hid hl
  have t1 : (0 : Int) < (n : Int) := by omega
  clear hr hM a8 r8 hl
  go_enter Tryd.func32, Tryd.ntmps32
  go_wp2_with fail
  refine (weights_any at_ x A n c D w (unhid HR) hD hn A8.out hx).mono ?_
  rintro e w1 ⟨AW, cW, rfl, oW, hb1⟩
  have E1 := hid hb1; have OW := hid oW
  have s1 : w.heap.size ≤ w1.heap.size := hb1.size
  have WB := hid (wgt_by at_ x n)
  have hwl := wgtN_len at_ x n
  obtain ⟨ws, hws⟩ : ∃ ws, wgtN at_ x n = ws := ⟨_, rfl⟩
  rw [hws] at OW WB hwl
  have HWS := hid hws; have HWL := hid hwl
  clear oW hb1 hws hwl
  have M1 := hid ((unhid HM).below ((unhid E1).mono hD))
  obtain ⟨gr, or_, r0, A0, c0, hA', hr0, hc0, hle0, _⟩ := (unhid M1).at (i := 0) (by omega)
  rw [HL.out r0 (List.mem_of_getElem? hr0.out)] at hc0
  subst hA'
  rw [Nat.add_zero] at hc0
  clear hle0 hr0
  go_wp2_with (with_reducible refine halt_op (some 20) (.makeSlice _ _ _) (fun K hK => ?_))
  refine go_on hK ?_; clear hK
  refine make_full (.int .u8 0) Tryd.underlying33 (b := 1) (by kernel_rfl) rfl rfl (.tmp 19) (.tmp 19) rfl rfl rfl (n := m) (by omega) (by simp [maxLen]; omega) ?_
  intro g8 w2 hg8 o2 e2 hz2
  have O2 : Hid (Own w2 w1.heap.size 5 1 (some ⟨g8, 0, none⟩) m m (byt (outT ws R m 0))) := hid (by
    have : byt (outT ws R m 0) = List.replicate m (.int .u8 0) := by simp [byt, outT, tv, List.map_const']
    rw [this]; exact o2)
  have hg1 : w1.heap.size ≤ g8 := by omega
  have E2 := hid ((unhid E1).trans (e2.mono s1))
  have M2 := hid ((unhid M1).below (e2.mono (by omega)))
  have W2 := hid ((Row.of_own (unhid OW)).below e2)
  clear o2 e2 hg8 E1 M1 OW hc0
  go_wp2_with fail
  go_loopw [23] (fun v23 wr => ∃ i : Nat, i ≤ n ∧ v23 = .int .i64 i ∧ Hid (Own wr w1.heap.size 5 1 (some ⟨g8, 0, none⟩) m m (byt (outT ws R m i))) ∧ Hid (Kept (fun j => j = g8) w2 wr)) (fun v23 _ => n - (intOf v23).toNat)
  case atStart => exact ⟨0, Nat.zero_le _, rfl, O2, Kept.refl _ _⟩
  case round =>
    obtain ⟨i, hi, rfl, HO, HK⟩ := hrel
    by_cases hlt : i < n
    · obtain ⟨gq, oq, r, AR, cR, e, hr, hle, hall⟩ := Mat.all (unhid M2) hlt
      injection e with e; injection e with e1' e2'; subst e1'; subst e2'
      have hrl : r.length = m := HL.out r (List.mem_of_getElem? hr.out)
      rw [hrl] at hle hall
      have CR : Hid (∀ W, Kept (fun j => j = g8) w2 W → W.cell? ⟨gr, or_ + i, none⟩ = some (Value.slice AR m cR) ∧ Row W D 1 AR m (byt r)) := hid fun W hk => hall.out W (hk.below (by omega) (fun j hj h => by omega))
      obtain ⟨gw, ow, y, rfl, hgw, hy, hcy⟩ := (unhid W2).byte hlt
      have CY : Hid (∀ W, Kept (fun j => j = g8) w2 W → W.cell? ⟨gw, ow + i, none⟩ = some (.int .u8 (y : Int))) := hid fun W hk => by
        rw [World.cell?_of_block (hk.block gw (by omega) (by omega))]; exact hcy
      have hyd : ws.getD i 0 = y := by rw [List.getD_eq_getElem?_getD, hy]; rfl
      have hrd : R.getD i [] = r := by rw [List.getD_eq_getElem?_getD, hr.out]; rfl
      have hy8 : y < 256 := WB.out y (List.mem_of_getElem? hy)
      have hr8 : By8s r := R8.out r (List.mem_of_getElem? hr.out)
      have HYD := hid hyd; have HRD := hid hrd; have HR8 := hid hr8
      have i1 : (0 : Int) ≤ (i : Int) := by omega
      have i2 : (i : Int) < (n : Int) := by omega
      have hcr := (CR.out _ (unhid HK)).1
      clear hy hyd hrd hcy hr hr8 hall hle
      go_wp2_with fail
      go_loopw [30] (fun v30 wr => ∃ k : Nat, k ≤ m ∧ v30 = .int .i64 k ∧ Hid (Own wr w1.heap.size 5 1 (some ⟨g8, 0, none⟩) m m (byt (outP ws R m i k))) ∧ Hid (Kept (fun j => j = g8) w2 wr)) (fun v30 _ => m - (intOf v30).toNat)
      case atStart => exact ⟨0, Nat.zero_le _, rfl, by rw [outP_zero]; exact HO, HK⟩
      case round =>
        obtain ⟨k, hk, rfl, HP, HF⟩ := hrel
        by_cases hkm : k < m
        · obtain ⟨gb, ob, b, rfl, hgb, hb, hcb⟩ := (CR.out _ (unhid HF)).2.byte hkm
          have hb8 : b < 256 := HR8.out b (List.mem_of_getElem? hb)
          have hbd : r.getD k 0 = b := by rw [List.getD_eq_getElem?_getD, hb]; rfl
          have hcw : wr.drew.cell? ⟨gw, ow + i, none⟩ = some (.int .u8 (y : Int)) := CY.out wr.drew (unhid HF).drew
          have htv : tv ws R k (i + 1) = tv ws R k i ^^^ Fld.mul y b := by
            show tv ws R k i ^^^ Fld.mul (ws.getD i 0) ((R.getD i []).getD k 0) = _
            rw [HYD.out, HRD.out, hbd]
          have hset := outP_set ws R m i k hkm
          have hget := outP_get ws R m i k hkm
          have t8 := tv_lt ws R k WB.out i
          rw [htv] at hset
          obtain ⟨u, hu⟩ : ∃ u, tv ws R k i = u := ⟨_, rfl⟩
          rw [hu] at hset hget t8
          have p8 : Fld.mul y b < 256 := Fld.mul_lt _ _ hy8
          have C1 := hid (fun w' : World => mul_any y b w' hy8 hb8)
          obtain ⟨p, hp⟩ : ∃ p, Fld.mul y b = p := ⟨_, rfl⟩
          rw [hp] at hset p8 C1
          have C2 := hid (fun w' : World => add_any u p w' t8 p8)
          have hg := (unhid HP).get1 (i := k) hkm
          have hco : wr.cell? ⟨g8, k, none⟩ = some (.int .u8 (u : Int)) := hg.1.trans (by rw [List.getElem?_map, hget]; rfl)
          have hcf : wr.frozen? ⟨g8, k, none⟩ = false := hg.2
          have hst := (unhid HP).drew.set1 (i := k) hkm (.int .u8 ((u ^^^ p : Nat) : Int))
          have HP2 : Hid (Own (wr.drew.setCell ⟨g8, k, none⟩ (.int .u8 ((u ^^^ p : Nat) : Int))) w1.heap.size 5 1 (some ⟨g8, 0, none⟩) m m (byt (outP ws R m i (k + 1)))) := hid (by
            have := hst.2.1
            rw [byt_set, hset] at this
            exact this)
          have HF2 : Hid (Kept (fun j => j = g8) w2 (wr.drew.setCell ⟨g8, k, none⟩ (.int .u8 ((u ^^^ p : Nat) : Int)))) := hid ((unhid HF).drew.set ⟨g8, k, none⟩ (fun _ => rfl) _)
          have hS9 : (wr.drew.setCell ⟨g8, k, none⟩ (.int .u8 ((u ^^^ p : Nat) : Int))).cell? ⟨gw, ow + i, none⟩ = some (.int .u8 (y : Int)) := CY.out _ (unhid HF2)
          have k1 : (0 : Int) ≤ (k : Int) := by omega
          have k2 : (k : Int) < (m : Int) := by omega
          clear hb hbd htv hset hget hu hp hg hst
          go_wp2_with fail
          refine wp_region_held_drew (S := fun w' => w'.cell? ⟨gw, ow + i, none⟩ = some (.int .u8 (y : Int))) (by kernel_rfl) hcw (fun hS => ?_)
          refine wpAnyH_take (i := 0) (v := .slice (some ⟨g8, 0, none⟩) m m) rfl (by kernel_rfl) (by kernel_rfl) (by kernel_rfl) (fun _ _ _ h => h) (yields_of rfl (fun w => by go_simp)) hS ?_
          simp only [Act.put, List.setIfInBounds_toArray]
          refine wpAnyH_take (i := 1) (v := .int .i64 (k : Int)) rfl (by kernel_rfl) (by kernel_rfl) (by kernel_rfl) (fun _ _ _ h => h) (yields_of rfl (fun w => by go_simp)) hS ?_
          simp only [Act.put]
          refine wpAnyH_take (i := 2) (v := .slice (some ⟨g8, 0, none⟩) m m) rfl (by kernel_rfl) (by kernel_rfl) (by kernel_rfl) (fun _ _ _ h => h) (yields_of rfl (fun w => by go_simp)) hS ?_
          simp only [Act.put]
          refine wpAnyH_take (i := 3) (v := .int .i64 (k : Int)) rfl (by kernel_rfl) (by kernel_rfl) (by kernel_rfl) (fun _ _ _ h => h) (yields_of rfl (fun w => by go_simp)) hS ?_
          simp only [Act.put]
          refine wpAnyH_take (i := 4) (v := .pointer (some ⟨g8, k, none⟩)) rfl (by kernel_rfl) (by kernel_rfl) (by kernel_rfl) (fun _ _ _ h => h) (yields_of rfl (fun w => by go_simp)) hS ?_
          simp only [Act.put]
          refine wpAnyH_take (i := 6) (v := .slice (some ⟨gw, ow, none⟩) n cW) rfl (by kernel_rfl) (by kernel_rfl) (by kernel_rfl) (fun _ _ _ h => h) (yields_of rfl (fun w => by go_simp)) hS ?_
          simp only [Act.put]
          refine wpAnyH_take (i := 7) (v := .int .i64 (i : Int)) rfl (by kernel_rfl) (by kernel_rfl) (by kernel_rfl) (fun _ _ _ h => h) (yields_of rfl (fun w => by go_simp)) hS ?_
          simp only [Act.put]
          refine wpAnyH_take (i := 8) (v := .pointer (some ⟨gw, ow + i, none⟩)) rfl (by kernel_rfl) (by kernel_rfl) (by kernel_rfl) (fun _ _ _ h => h) (yields_of rfl (fun w => by go_simp)) hS ?_
          simp only [Act.put]
          refine wpAnyH_take (i := 9) (v := .int .u8 (y : Int)) rfl (by kernel_rfl) (by kernel_rfl) (by kernel_rfl) (fun _ _ _ h => h) (.inl ⟨rfl, fun w h => by go_simp⟩) hS ?_
          simp only [Act.put]
          refine wpAnyH_take (i := 10) (v := .int .u8 (b : Int)) rfl (by kernel_rfl) (by kernel_rfl) (by kernel_rfl) (fun _ _ _ h => h) (yields_of rfl (fun w => by go_simp)) hS ?_
          simp only [Act.put]
          refine wpAnyH_ready (rs := [5, 11]) (by kernel_rfl) (by simp) ?_
          refine AllReadyH.cons (o := _) rfl (fun K hK => ?_) (AllReadyH.cons (o := _) rfl (fun K hK => ?_) AllReadyH.nil)
          · go_simp
            refine hK.out _ _ hS (fun _ => ?_)
            refine wpAnyH_ready (rs := [11]) (by kernel_rfl) (by simp) ?_
            refine AllReadyH.cons (o := _) rfl (fun K hK => ?_) AllReadyH.nil
            go_simp
            refine ((unhid C1) _).mono ?_
            rintro e w' ⟨rfl, rfl⟩
            go_wp2_with fail
            refine hK.out _ _ hS (fun _ => ?_)
            refine wpAnyH_ready (rs := [12]) (by kernel_rfl) (by simp) ?_
            refine AllReadyH.cons (o := _) rfl (fun K hK => ?_) AllReadyH.nil
            go_simp
            refine ((unhid C2) _).mono ?_
            rintro e w' ⟨rfl, rfl⟩
            go_wp2_with fail
            refine hK.out _ _ hS (fun _ => ?_)
            refine wpAnyH_take (i := 13) (v := .pointer (some ⟨g8, k, none⟩)) rfl (by kernel_rfl) (by kernel_rfl) (by kernel_rfl) (fun _ _ _ h => h) (yields_of rfl (fun w => by go_simp)) hS ?_
            simp only [Act.put]
            refine wpAnyH_ready (rs := [14]) (by kernel_rfl) (by simp) ?_
            refine AllReadyH.cons (o := _) rfl (fun K hK => ?_) AllReadyH.nil
            go_simp
            refine hK.out _ _ hS9 (fun _ => ?_)
            refine wpAnyH_done (by kernel_rfl) ?_ _
            clear hS hS9
            go_wp2_with fail
            go_roundw
            case rel => exact ⟨k + 1, by omega, by go_num, HP2, HF2⟩
            case measure => simp [intOf]; omega
          · go_simp
            refine ((unhid C1) _).mono ?_
            rintro e w' ⟨rfl, rfl⟩
            go_wp2_with fail
            refine hK.out _ _ hS (fun _ => ?_)
            refine wpAnyH_ready (rs := [5]) (by kernel_rfl) (by simp) ?_
            refine AllReadyH.cons (o := _) rfl (fun K hK => ?_) AllReadyH.nil
            go_simp
            refine hK.out _ _ hS (fun _ => ?_)
            refine wpAnyH_ready (rs := [12]) (by kernel_rfl) (by simp) ?_
            refine AllReadyH.cons (o := _) rfl (fun K hK => ?_) AllReadyH.nil
            go_simp
            refine ((unhid C2) _).mono ?_
            rintro e w' ⟨rfl, rfl⟩
            go_wp2_with fail
            refine hK.out _ _ hS (fun _ => ?_)
            refine wpAnyH_take (i := 13) (v := .pointer (some ⟨g8, k, none⟩)) rfl (by kernel_rfl) (by kernel_rfl) (by kernel_rfl) (fun _ _ _ h => h) (yields_of rfl (fun w => by go_simp)) hS ?_
            simp only [Act.put]
            refine wpAnyH_ready (rs := [14]) (by kernel_rfl) (by simp) ?_
            refine AllReadyH.cons (o := _) rfl (fun K hK => ?_) AllReadyH.nil
            go_simp
            refine hK.out _ _ hS9 (fun _ => ?_)
            refine wpAnyH_done (by kernel_rfl) ?_ _
            clear hS hS9
            go_wp2_with fail
            go_roundw
            case rel => exact ⟨k + 1, by omega, by go_num, HP2, HF2⟩
            case measure => simp [intOf]; omega
        · have hkm2 : k = m := by omega
          subst hkm2
          have k2 : ¬ (k : Int) < (k : Int) := by omega
          rw [outP_all] at HP
          go_wp2_with fail
          go_roundw
          case rel => exact ⟨i + 1, by omega, by go_num, HP, HF⟩
          case measure => simp [intOf]; omega
    · have hin : i = n := by omega
      subst hin
      have i2 : ¬ (i : Int) < (i : Int) := by omega
      have E9 : Hid (Below w.heap.size w wr) := hid ((unhid E2).trans ((unhid HK).below (by have := (unhid E2).size; exact this) (fun j hj h => by omega)))
      go_wp2_with fail
      go_ret
      exact ⟨some ⟨g8, 0, none⟩, rfl, by rw [HWS.out]; exact Row.of_own (unhid HO), unhid E9⟩
end Go.Proofs.YtilaipdpbcfhkaaDoor
