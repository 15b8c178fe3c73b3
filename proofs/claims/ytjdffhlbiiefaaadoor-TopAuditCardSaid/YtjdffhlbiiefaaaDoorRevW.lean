/- The walks of slices.Reverse at totals and at bools. -/
import Derived.Test.YtjdffhlbiiefaaaDoorRootW
import Derived.Test.YtjdffhlbiiefaaaDoorRevMath
import Derived.Test.YtjdffhlbiiefaaaDoorMake
namespace Go.Mny
open Go.RowKit
/-- one element of several cells is replaced, as an operation of a drawn region -/
theorem store_own_wp {P : Program} {t e s : Nat} (T : RowT P t s) {w : World} {o : Oper} {a : Act} {K : Act → World → Prop} {Q : Exit → Act → World → Prop}
    (x y : Operand) (ho : o.op = .store t x y) {g q B n c i : Nat} {cs : List Value} (hown : Own w B e s (some ⟨g, 0, none⟩) n c cs) (hi : i < n) (hq : q = i * s)
    (hx : a.eval x = .pointer (some ⟨g, q, none⟩)) {vs : List Value} (hy : a.eval y = .agg vs.toArray) (hl : vs.length = s) (h1 : ∀ v ∈ vs, v.oneCell' = true)
    (h : ∀ w2, Own w2 B e s (some ⟨g, 0, none⟩) n c (putAt s i cs vs) → w.grownBy w2 (some g) → K (a.put o.dst undef) w2) : o.wp P a w K Q := by
  subst hq
  obtain ⟨g', cur, e1, hB, hb, hnc, hcm, hcs, ht⟩ := hown.blk (by omega)
  injection e1 with e1; injection e1 with e1; subst e1
  have hle : (i + 1) * s ≤ n * s := Nat.mul_le_mul_right s hi
  have hle2 : n * s ≤ c * s := Nat.mul_le_mul_right s hnc
  have hsucc : (i + 1) * s = i * s + s := Nat.succ_mul i s
  have hfit : i * s + vs.length ≤ cur.size := by omega
  obtain ⟨hr, b2, g2⟩ := run_store_mid T.size hb.out vs hl hfit h1
  unfold Oper.wp execOp
  simp only [ho, hx, hy, Instr.storeAt, Instr.sureAddr, Sem.run_bind, Sem.run_pure, Result.andThen_ok, hr]
  refine h _ (Own.of_blk b2 hB hnc hcm (by rw [splice_size hfit]; exact hcs) ?_) g2
  subst ht
  unfold splice putAt
  obtain ⟨k, hk⟩ : ∃ k, n * s = i * s + s + k := ⟨n * s - (i * s + s), by omega⟩
  have hX : (cur.toList.take (i * s) ++ vs).length = i * s + s := by rw [List.length_append, List.length_take, Array.length_toList, hl]; omega
  rw [hk, hl, hsucc, List.take_take, Nat.min_eq_left (by omega)]
  generalize cur.toList.take (i * s) ++ vs = X at hX ⊢
  simp only
  rw [← hX, List.take_length_add_append, List.drop_take, Nat.add_sub_cancel_left]
theorem if_step {c : Prop} {i : Decidable c} {p q : Prop} (h : c) (hp : p) : @ite Prop c i p q := by rw [if_pos h]; exact hp
theorem put_flat {s : Nat} {L : List (List Value)} (h : ∀ l ∈ L, l.length = s) {i : Nat} (hi : i < L.length) (d : List Value) : putAt s i L.flatten d = (L.set i d).flatten := by
  unfold putAt
  rw [flat_take L i h, flat_drop L (i + 1) h, List.set_eq_take_append_cons_drop, if_pos hi, List.flatten_append, List.flatten_cons, List.append_assoc]
end Go.Mny
namespace Go.Proofs.YtjdffhlbiiefaaaDoor
set_option linter.unusedVariables false
set_option linter.unusedSimpArgs false
open Go.RowKit Go.Mny Aud
theorem own_elem {w : World} {B g n c i : Nat} {ts : List Tot} {t : Tot} (h : Own w B 38 33 (some ⟨g, 0, none⟩) n c (tcs ts)) (hl : ts.length = n) (ho : Oks ts) (ht : ts[i]? = some t) : w.rangeAt g (i * 33) (tc t) := by
  have hi : i < n := by rw [← hl]; exact (List.getElem?_eq_some_iff.1 ht).1
  obtain ⟨g', o, e1, e2, e3⟩ := (Row.of_own h).elem hi
  injection e1 with e1
  injection e1 with e1 e4
  subst e1; subst e4
  rw [tcs_at ho ht, Nat.zero_add] at e3
  exact e3
theorem put_tcs {ts : List Tot} (ho : Oks ts) {i : Nat} (hi : i < ts.length) (t : Tot) : putAt 33 i (tcs ts) (tc t) = tcs (ts.set i t) := by
  unfold tcs
  rw [put_flat (tcs_each ho) (by rw [List.length_map]; exact hi), List.map_set]
theorem oks_set {ts : List Tot} (h : Oks ts) {t : Tot} (ht : Ok t) (i : Nat) : Oks (ts.set i t) := fun x hx => by
  rcases List.mem_or_eq_of_mem_set hx with hx | rfl
  · exact h x hx
  · exact ht
theorem swp_oks {ts : List Tot} (h : Oks ts) (k : Nat) : Oks (Rev.swp ndE ts k) := by
  intro x hx
  obtain ⟨q, hq, rfl⟩ := List.mem_map.1 hx
  have hq' : q < ts.length := by simpa using hq
  split
  · exact h _ (List.mem_of_getElem? (Rev.getD_get ndE ts _ (by omega)))
  · exact h _ (List.mem_of_getElem? (Rev.getD_get ndE ts _ hq'))
def RevP (w : World) (B e s : Nat) (A : Option Addr) (n c : Nat) (cs : List Value) (en : Ending) (w' : World) : Prop := en = .returned (.tuple #[]) ∧ Own w' B e s A n c cs ∧ Below B w w'
set_option maxHeartbeats 4000000 in
set_option maxRecDepth 100000 in
theorem reverse_any (ts : List Tot) (A : Option Addr) (n c B : Nat) (w : World) (hl : ts.length = n) (hn : n ≤ 256) (ho : Oks ts) (hown : Own w B 38 33 A n c (tcs ts)) :
    Calls Tryd.prog 17 #[.slice A n c] w (RevP w B 38 33 A n c (tcs ts.reverse)) := by
  have HL := hid hl; have HO := hid ho; have HOWN := hid hown
  clear hl ho hown
  by_cases h0 : n = 0
  · subst h0
    have : ts = [] := List.eq_nil_of_length_eq_zero HL.out
    subst this
    go_enter Tryd.func17, Tryd.ntmps17
    go_wp2_with fail
    refine wp_loop_rounds 1 ?_
    rw [rounds_succ]
    go_wp2_with fail
    exact bodyPost_end (results_none rfl _ _ _) rfl ⟨rfl, unhid HOWN, Below.refl _ _⟩
  · obtain ⟨g, cur, rfl, hBg, _⟩ := (unhid HOWN).blk (by omega)
    go_enter Tryd.func17, Tryd.ntmps17
    go_wp2_with fail
    go_loopw [2, 3] (fun v2 v3 wr => ∃ k : Nat, k < n ∧ v2 = .int .i64 (k : Int) ∧ v3 = .int .i64 ((n : Int) - 1 - (k : Int)) ∧ Hid (Own wr B 38 33 (some ⟨g, 0, none⟩) n c (tcs (Rev.swp ndE ts k))) ∧ Hid (Below B w wr)) (fun v2 _ _ => n - (intOf v2).toNat)
    case atStart => exact ⟨0, by omega, rfl, by simp, by rw [Rev.swp_zero]; exact HOWN, Below.refl _ _⟩
    case round =>
      obtain ⟨k, hk, rfl, rfl, HW, HB⟩ := hrel
      by_cases h2 : 2 * k + 1 < n
      · obtain ⟨q, hq⟩ : ∃ q, q = n - 1 - k := ⟨_, rfl⟩
        have hqi : (n : Int) - 1 - (k : Int) = (q : Int) := by omega
        have hkq : k < q := by omega
        have hqn : q < n := by omega
        obtain ⟨x, hx⟩ : ∃ x, ts[q]? = some x := ⟨_, List.getElem?_eq_getElem (by rw [HL.out]; exact hqn)⟩
        obtain ⟨y, hy⟩ : ∃ y, ts[k]? = some y := ⟨_, List.getElem?_eq_getElem (by rw [HL.out]; exact hk)⟩
        have X1 : Hid ((Rev.swp ndE ts k)[q]? = some x) := by show _ = _; rw [Rev.swp_mid ndE ts k q (by omega) (by rw [HL.out]; omega), hx]
        have Y1 : Hid ((Rev.swp ndE ts k)[k]? = some y) := by show _ = _; rw [Rev.swp_mid ndE ts k k (by omega) (by rw [HL.out]; omega), hy]
        have HS : Hid (((Rev.swp ndE ts k).set k x).set q y = Rev.swp ndE ts (k + 1)) := by
          have := Rev.swp_step ndE ts k (by rw [HL.out]; exact h2) x y (by rw [HL.out, ← hq]; exact hx) hy
          rw [HL.out, ← hq] at this
          exact this
        have OX := hid ((unhid HO) x (List.mem_of_getElem? hx)); have OY := hid ((unhid HO) y (List.mem_of_getElem? hy))
        have OS := hid (swp_oks (unhid HO) k)
        have LS : Hid ((Rev.swp ndE ts k).length = n) := by show _ = _; rw [Rev.swp_len, HL.out]
        obtain ⟨us, hus⟩ : ∃ us, us = Rev.swp ndE ts k := ⟨_, rfl⟩
        rw [← hus] at HW X1 Y1 HS OS LS
        have RX := hid (own_elem (unhid HW) LS.out (unhid OS) X1.out)
        have RY := hid (own_elem (unhid HW) LS.out (unhid OS) Y1.out)
        have hql : (q : Int) < (n : Int) := by omega
        have hkl : (k : Int) < (n : Int) := by omega
        have hkq' : (k : Int) < (q : Int) := by omega
        rw [hqi]
        have HQI := hid hqi
        clear hqi hq hx hy hus h2
        go_wp2_with fail
        refine wp_region_held_drew (S := fun _ => True) (by kernel_rfl) trivial (fun hS => ?_)
        refine wpAnyH_take (i := 0) (oi := { dst := some 14, op := Op.move (Operand.tmp 0), type := 36, pos := "slices.go:485", after := #[], guard := none }) (v := .slice (some ⟨g, 0, none⟩) n c) rfl (by kernel_rfl) (by kernel_rfl) (by kernel_rfl) (fun _ _ _ h => h) (yields_of rfl (fun w => by go_simp)) hS ?_
        try simp only [Act.put, List.setIfInBounds_toArray, List.set_cons_zero, List.set_cons_succ]
        refine wpAnyH_take (i := 1) (oi := { dst := some 15, op := Op.move (Operand.tmp 2), type := 3, pos := "slices.go:485", after := #[], guard := none }) (v := .int .i64 (k : Int)) rfl (by kernel_rfl) (by kernel_rfl) (by kernel_rfl) (fun _ _ _ h => h) (yields_of rfl (fun w => by go_simp)) hS ?_
        try simp only [Act.put, List.setIfInBounds_toArray, List.set_cons_zero, List.set_cons_succ]
        refine wpAnyH_take (i := 2) (oi := { dst := some 16, op := Op.move (Operand.tmp 0), type := 36, pos := "slices.go:485", after := #[{ on := 13, ground := Ground.gcOnly Departure.lateStores }], guard := none }) (v := .slice (some ⟨g, 0, none⟩) n c) rfl (by kernel_rfl) (by kernel_rfl) (by kernel_rfl) (fun _ _ _ h => h) (yields_of rfl (fun w => by go_simp)) hS ?_
        try simp only [Act.put, List.setIfInBounds_toArray, List.set_cons_zero, List.set_cons_succ]
        refine wpAnyH_take (i := 3) (oi := { dst := some 17, op := Op.move (Operand.tmp 3), type := 3, pos := "slices.go:485", after := #[{ on := 13, ground := Ground.gcOnly Departure.lateStores }], guard := none }) (v := .int .i64 (q : Int)) rfl (by kernel_rfl) (by kernel_rfl) (by kernel_rfl) (fun _ _ _ h => h) (yields_of rfl (fun w => by go_simp)) hS ?_
        try simp only [Act.put, List.setIfInBounds_toArray, List.set_cons_zero, List.set_cons_succ]
        refine wpAnyH_take (i := 4) (oi := { dst := some 18, op := Op.move (Operand.tmp 0), type := 36, pos := "slices.go:485", after := #[], guard := none }) (v := .slice (some ⟨g, 0, none⟩) n c) rfl (by kernel_rfl) (by kernel_rfl) (by kernel_rfl) (fun _ _ _ h => h) (yields_of rfl (fun w => by go_simp)) hS ?_
        try simp only [Act.put, List.setIfInBounds_toArray, List.set_cons_zero, List.set_cons_succ]
        refine wpAnyH_take (i := 5) (oi := { dst := some 19, op := Op.move (Operand.tmp 3), type := 3, pos := "slices.go:485", after := #[], guard := none }) (v := .int .i64 (q : Int)) rfl (by kernel_rfl) (by kernel_rfl) (by kernel_rfl) (fun _ _ _ h => h) (yields_of rfl (fun w => by go_simp)) hS ?_
        try simp only [Act.put, List.setIfInBounds_toArray, List.set_cons_zero, List.set_cons_succ]
        refine wpAnyH_take (i := 6) (oi := { dst := some 20, op := Op.indexAddr 36 (Operand.tmp 18) (Operand.tmp 19), type := 0, pos := "slices.go:485", after := #[{ on := 4, ground := Ground.data }, { on := 5, ground := Ground.data }], guard := none }) (v := .pointer (some ⟨g, q * 33, none⟩)) rfl (by kernel_rfl) (by kernel_rfl) (by kernel_rfl) (fun _ _ _ h => h) (yields_of rfl (fun w => by go_simp)) hS ?_
        try simp only [Act.put, List.setIfInBounds_toArray, List.set_cons_zero, List.set_cons_succ]
        refine wpAnyH_take (i := 8) (oi := { dst := some 22, op := Op.move (Operand.tmp 0), type := 36, pos := "slices.go:485", after := #[], guard := none }) (v := .slice (some ⟨g, 0, none⟩) n c) rfl (by kernel_rfl) (by kernel_rfl) (by kernel_rfl) (fun _ _ _ h => h) (yields_of rfl (fun w => by go_simp)) hS ?_
        try simp only [Act.put, List.setIfInBounds_toArray, List.set_cons_zero, List.set_cons_succ]
        refine wpAnyH_take (i := 9) (oi := { dst := some 23, op := Op.move (Operand.tmp 2), type := 3, pos := "slices.go:485", after := #[], guard := none }) (v := .int .i64 (k : Int)) rfl (by kernel_rfl) (by kernel_rfl) (by kernel_rfl) (fun _ _ _ h => h) (yields_of rfl (fun w => by go_simp)) hS ?_
        try simp only [Act.put, List.setIfInBounds_toArray, List.set_cons_zero, List.set_cons_succ]
        refine wpAnyH_take (i := 10) (oi := { dst := some 24, op := Op.indexAddr 36 (Operand.tmp 22) (Operand.tmp 23), type := 0, pos := "slices.go:485", after := #[{ on := 8, ground := Ground.data }, { on := 9, ground := Ground.data }], guard := none }) (v := .pointer (some ⟨g, k * 33, none⟩)) rfl (by kernel_rfl) (by kernel_rfl) (by kernel_rfl) (fun _ _ _ h => h) (yields_of rfl (fun w => by go_simp)) hS ?_
        try simp only [Act.put, List.setIfInBounds_toArray, List.set_cons_zero, List.set_cons_succ]
        obtain ⟨wd, hwd⟩ : ∃ W, W = wr.drew := ⟨_, rfl⟩
        have WD : Hid (Own wd B 38 33 (some ⟨g, 0, none⟩) n c (tcs us)) := by rw [hwd]; exact (unhid HW).drew
        have HBD : Hid (Below B w wd) := by rw [hwd]; exact (unhid HB).drew
        have RXD : Hid (wd.rangeAt g (q * 33) (tc x)) := by rw [hwd]; exact RX
        have RYD : Hid (wd.rangeAt g (k * 33) (tc y)) := by rw [hwd]; exact RY
        rw [← hwd]
        clear hwd HW HB RX RY hS
        refine wpAnyH_ready (rs := [7, 11]) (by kernel_rfl) (by simp) ?_
        refine AllReadyH.cons (o := _) rfl (fun K hK => ?_) (AllReadyH.cons (o := _) rfl (fun K hK => ?_) AllReadyH.nil)
        · skip
          refine if_step (by kernel_rfl) ?_
          refine wp_load_mid 38 (.tmp 20) rfl g (q * 33) rfl (tc x) _ RXD.out Tryd.underlying38 rfl (by rw [tc_len (unhid OX).2.1]; exact totT.size) ?_
          refine hK.out _ _ trivial (fun _ => ?_)
          refine wpAnyH_ready (rs := [11]) (by kernel_rfl) (by simp) ?_
          refine AllReadyH.cons (o := _) rfl (fun K hK => ?_) AllReadyH.nil
          refine if_step (by kernel_rfl) ?_
          refine wp_load_mid 38 (.tmp 24) rfl g (k * 33) rfl (tc y) _ RYD.out Tryd.underlying38 rfl (by rw [tc_len (unhid OY).2.1]; exact totT.size) ?_
          refine hK.out _ _ trivial (fun hS => ?_)
          refine wpAnyH_take (i := 12) (oi := { dst := some 26, op := Op.indexAddr 36 (Operand.tmp 14) (Operand.tmp 15), type := 0, pos := "slices.go:485", after := #[{ on := 0, ground := Ground.data }, { on := 1, ground := Ground.data }, { on := 0, ground := Ground.phase }, { on := 1, ground := Ground.phase }, { on := 2, ground := Ground.textOnly Departure.lateStores }, { on := 3, ground := Ground.textOnly Departure.lateStores }, { on := 4, ground := Ground.phase }, { on := 5, ground := Ground.phase }, { on := 6, ground := Ground.phase }, { on := 7, ground := Ground.phase }, { on := 8, ground := Ground.textOnly Departure.lateStores }, { on := 9, ground := Ground.textOnly Departure.lateStores }, { on := 10, ground := Ground.textOnly Departure.lateStoresUnsure }, { on := 11, ground := Ground.phase }], guard := none }) (v := .pointer (some ⟨g, k * 33, none⟩)) rfl (by kernel_rfl) (by kernel_rfl) (by kernel_rfl) (fun _ _ _ h => h) (yields_of rfl (fun w => by go_simp)) hS ?_
          try simp only [Act.put, List.setIfInBounds_toArray, List.set_cons_zero, List.set_cons_succ]
          refine wpAnyH_ready (rs := [13]) (by kernel_rfl) (by simp) ?_
          refine AllReadyH.cons (o := _) rfl (fun K hK => ?_) AllReadyH.nil
          refine if_step (by kernel_rfl) ?_
          refine store_own_wp totT (.tmp 26) (.tmp 21) rfl (unhid WD) hk rfl rfl (vs := tc x) rfl (tc_len (unhid OX).2.1) (tc_one _) ?_
          intro w5 o5 g5
          rw [put_tcs (unhid OS) (by rw [LS.out]; exact hk)] at o5
          have O5 := hid o5
          have H5 := hid (Below.grown (unhid HBD) g5 (by have := (unhid WD).from_ g rfl; omega) (fun q hq => by injection hq with hq; omega))
          clear o5 g5
          refine hK.out _ _ trivial (fun hS => ?_)
          refine wpAnyH_take (i := 14) (oi := { dst := some 27, op := Op.indexAddr 36 (Operand.tmp 16) (Operand.tmp 17), type := 0, pos := "slices.go:485", after := #[{ on := 2, ground := Ground.data }, { on := 3, ground := Ground.data }, { on := 0, ground := Ground.phase }, { on := 1, ground := Ground.phase }, { on := 2, ground := Ground.phase }, { on := 3, ground := Ground.phase }, { on := 4, ground := Ground.phase }, { on := 5, ground := Ground.phase }, { on := 6, ground := Ground.phase }, { on := 7, ground := Ground.phase }, { on := 8, ground := Ground.phase }, { on := 9, ground := Ground.phase }, { on := 10, ground := Ground.phase }, { on := 11, ground := Ground.phase }, { on := 12, ground := Ground.phase }, { on := 13, ground := Ground.phase }], guard := none }) (v := .pointer (some ⟨g, q * 33, none⟩)) rfl (by kernel_rfl) (by kernel_rfl) (by kernel_rfl) (fun _ _ _ h => h) (yields_of rfl (fun w => by go_simp)) hS ?_
          try simp only [Act.put, List.setIfInBounds_toArray, List.set_cons_zero, List.set_cons_succ]
          refine wpAnyH_ready (rs := [15]) (by kernel_rfl) (by simp) ?_
          refine AllReadyH.cons (o := _) rfl (fun K hK => ?_) AllReadyH.nil
          refine if_step (by kernel_rfl) ?_
          refine store_own_wp totT (.tmp 27) (.tmp 25) rfl (unhid O5) hqn rfl rfl (vs := tc y) rfl (tc_len (unhid OY).2.1) (tc_one _) ?_
          intro w6 o6 g6
          rw [put_tcs (oks_set (unhid OS) (unhid OX) k) (by rw [List.length_set, LS.out]; exact hqn), HS.out] at o6
          have O6 := hid o6
          have H6 := hid (Below.grown (unhid H5) g6 (by have := (unhid O5).from_ g rfl; omega) (fun q hq => by injection hq with hq; omega))
          clear o6 g6
          refine hK.out _ _ trivial (fun hS => ?_)
          refine wpAnyH_done (by kernel_rfl) ?_ _
          go_wp2_with fail
          go_roundw
          case rel => exact ⟨k + 1, by omega, by go_num, by rw [← HQI.out]; go_num, O6, H6⟩
          case measure => simp [intOf]; omega
        · skip
          refine if_step (by kernel_rfl) ?_
          refine wp_load_mid 38 (.tmp 24) rfl g (k * 33) rfl (tc y) _ RYD.out Tryd.underlying38 rfl (by rw [tc_len (unhid OY).2.1]; exact totT.size) ?_
          refine hK.out _ _ trivial (fun _ => ?_)
          refine wpAnyH_ready (rs := [7]) (by kernel_rfl) (by simp) ?_
          refine AllReadyH.cons (o := _) rfl (fun K hK => ?_) AllReadyH.nil
          refine if_step (by kernel_rfl) ?_
          refine wp_load_mid 38 (.tmp 20) rfl g (q * 33) rfl (tc x) _ RXD.out Tryd.underlying38 rfl (by rw [tc_len (unhid OX).2.1]; exact totT.size) ?_
          refine hK.out _ _ trivial (fun hS => ?_)
          refine wpAnyH_take (i := 12) (oi := { dst := some 26, op := Op.indexAddr 36 (Operand.tmp 14) (Operand.tmp 15), type := 0, pos := "slices.go:485", after := #[{ on := 0, ground := Ground.data }, { on := 1, ground := Ground.data }, { on := 0, ground := Ground.phase }, { on := 1, ground := Ground.phase }, { on := 2, ground := Ground.textOnly Departure.lateStores }, { on := 3, ground := Ground.textOnly Departure.lateStores }, { on := 4, ground := Ground.phase }, { on := 5, ground := Ground.phase }, { on := 6, ground := Ground.phase }, { on := 7, ground := Ground.phase }, { on := 8, ground := Ground.textOnly Departure.lateStores }, { on := 9, ground := Ground.textOnly Departure.lateStores }, { on := 10, ground := Ground.textOnly Departure.lateStoresUnsure }, { on := 11, ground := Ground.phase }], guard := none }) (v := .pointer (some ⟨g, k * 33, none⟩)) rfl (by kernel_rfl) (by kernel_rfl) (by kernel_rfl) (fun _ _ _ h => h) (yields_of rfl (fun w => by go_simp)) hS ?_
          try simp only [Act.put, List.setIfInBounds_toArray, List.set_cons_zero, List.set_cons_succ]
          refine wpAnyH_ready (rs := [13]) (by kernel_rfl) (by simp) ?_
          refine AllReadyH.cons (o := _) rfl (fun K hK => ?_) AllReadyH.nil
          refine if_step (by kernel_rfl) ?_
          refine store_own_wp totT (.tmp 26) (.tmp 21) rfl (unhid WD) hk rfl rfl (vs := tc x) rfl (tc_len (unhid OX).2.1) (tc_one _) ?_
          intro w5 o5 g5
          rw [put_tcs (unhid OS) (by rw [LS.out]; exact hk)] at o5
          have O5 := hid o5
          have H5 := hid (Below.grown (unhid HBD) g5 (by have := (unhid WD).from_ g rfl; omega) (fun q hq => by injection hq with hq; omega))
          clear o5 g5
          refine hK.out _ _ trivial (fun hS => ?_)
          refine wpAnyH_take (i := 14) (oi := { dst := some 27, op := Op.indexAddr 36 (Operand.tmp 16) (Operand.tmp 17), type := 0, pos := "slices.go:485", after := #[{ on := 2, ground := Ground.data }, { on := 3, ground := Ground.data }, { on := 0, ground := Ground.phase }, { on := 1, ground := Ground.phase }, { on := 2, ground := Ground.phase }, { on := 3, ground := Ground.phase }, { on := 4, ground := Ground.phase }, { on := 5, ground := Ground.phase }, { on := 6, ground := Ground.phase }, { on := 7, ground := Ground.phase }, { on := 8, ground := Ground.phase }, { on := 9, ground := Ground.phase }, { on := 10, ground := Ground.phase }, { on := 11, ground := Ground.phase }, { on := 12, ground := Ground.phase }, { on := 13, ground := Ground.phase }], guard := none }) (v := .pointer (some ⟨g, q * 33, none⟩)) rfl (by kernel_rfl) (by kernel_rfl) (by kernel_rfl) (fun _ _ _ h => h) (yields_of rfl (fun w => by go_simp)) hS ?_
          try simp only [Act.put, List.setIfInBounds_toArray, List.set_cons_zero, List.set_cons_succ]
          refine wpAnyH_ready (rs := [15]) (by kernel_rfl) (by simp) ?_
          refine AllReadyH.cons (o := _) rfl (fun K hK => ?_) AllReadyH.nil
          refine if_step (by kernel_rfl) ?_
          refine store_own_wp totT (.tmp 27) (.tmp 25) rfl (unhid O5) hqn rfl rfl (vs := tc y) rfl (tc_len (unhid OY).2.1) (tc_one _) ?_
          intro w6 o6 g6
          rw [put_tcs (oks_set (unhid OS) (unhid OX) k) (by rw [List.length_set, LS.out]; exact hqn), HS.out] at o6
          have O6 := hid o6
          have H6 := hid (Below.grown (unhid H5) g6 (by have := (unhid O5).from_ g rfl; omega) (fun q hq => by injection hq with hq; omega))
          clear o6 g6
          refine hK.out _ _ trivial (fun hS => ?_)
          refine wpAnyH_done (by kernel_rfl) ?_ _
          go_wp2_with fail
          go_roundw
          case rel => exact ⟨k + 1, by omega, by go_num, by rw [← HQI.out]; go_num, O6, H6⟩
          case measure => simp [intOf]; omega
      · have hE : Hid (Rev.swp ndE ts k = ts.reverse) := Rev.swp_end ndE ts k (by rw [HL.out]; omega)
        have hlt : decide ((k : Int) < (n : Int) - 1 - (k : Int)) = false := by simp; omega
        have hlt2 : ¬ ((k : Int) < (n : Int) - 1 - (k : Int)) := by omega
        rw [hE.out] at HW
        go_wp2_with fail
        exact bodyPost_end (results_none rfl _ _ _) rfl ⟨rfl, unhid HW, unhid HB⟩
end Go.Proofs.YtjdffhlbiiefaaaDoor
