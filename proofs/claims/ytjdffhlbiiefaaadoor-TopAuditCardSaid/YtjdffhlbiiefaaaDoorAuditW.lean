/- The walk of the law TopAudit. -/
import Derived.Test.YtjdffhlbiiefaaaDoorFoldW
import Derived.Test.YtjdffhlbiiefaaaDoorCoinSumW
namespace Go.Proofs.YtjdffhlbiiefaaaDoor
set_option linter.unusedVariables false
set_option linter.unusedSimpArgs false
open Go.RowKit Go.Mny Aud
theorem coinsE : Elt Tryd.prog 22 35 36 80 := Elt.of Tryd.underlying22 (.agg coinZ) (by kernel_rfl) (by simp [Value.cells, coinZ_size]) (by decide)
theorem coinF : Flds Tryd.prog 35 coinZ #[(0, 33), (33, 2), (35, 1)] := ⟨⟨_, Tryd.underlying35, fun w => by kernel_rfl⟩, coinZ_is⟩
def c7 : CoC := ⟨List.replicate 32 0, 0, 7, none, 0, 0, [], 0⟩
theorem fill_c7 : Instr.fill ((#[(0, 33), (33, 2), (35, 1)] : Array (Nat × Nat))[·]?) coinZ [(1, .agg #[.int .i64 7, .slice none 0 0])] = some (coc c7).toArray := by
  rw [fill_step (off := 33) (s := 2) (vs := [.int .i64 7, .slice none 0 0]) rfl rfl rfl (by rw [coinZ_size]; decide), fill_done]
  congr 1
theorem build_c7 {w : World} {ops : Array Oper} {rest : List Oper} {o : Oper} {a : Act} {Q : Exit → Act → World → Prop} (hw : Region.wanted o (yielded ops a.tmps) = true)
    (y : Operand) (ho : o.op = .build 35 #[(1, y)]) (hy : a.eval y = .agg #[.int .i64 7, .slice none 0 0])
    (h : wpList Tryd.prog ops Q rest (a.put o.dst (.agg (coc c7).toArray)) w) : wpList Tryd.prog ops Q (o :: rest) a w := by
  refine op_step hw fun K hK => ?_
  have hr := run_build_flds coinF #[(1, .agg #[.int .i64 7, .slice none 0 0])] _ fill_c7 w
  unfold Oper.wp execOp
  simp only [ho, List.map_toArray, List.map_cons, List.map_nil, hy, Sem.run_bind, Sem.run_pure, Result.andThen_ok, hr]
  exact hK _ _ h
theorem c7_ok (w : World) (D : Nat) : CoOk w D c7 := ⟨by decide, fun x hx => by rw [(List.mem_replicate.1 hx).2]; decide, by decide, by decide, by decide, Nat.le_refl _, Nat.zero_le _, Ops.nil _ _ _⟩
theorem sum_c7 : sumC [c7] = (7, 0) := by decide
theorem coins_one {w : World} {g : Nat} {c : CoC} (h : Blk w g 35 (coc c).toArray) (hc : CoOk w w.heap.size c) : Coins w w.heap.size (some ⟨g, 0, none⟩) 1 [c] := by
  refine ⟨⟨by simp [cocs, coc_len hc.tx], fun _ => ⟨g, 0, rfl, h.lt', fun j hj => ?_⟩⟩, rfl, fun x hx => by rw [List.mem_singleton.1 hx]; exact hc⟩
  rw [Nat.zero_add, h.cell]; simp [cocs]
/-- the totals of the first k coins -/
def lvs (l : List CoC) : List Tot := l.map fun c => lfT c.tx c.amt
theorem lvs_oks {w : World} {D n : Nat} {A : Option Addr} {l : List CoC} (h : Coins w D A n l) (hp : ∀ c ∈ l, 0 ≤ c.amt) : Oks (lvs l) := by
  intro t ht
  obtain ⟨c, hc, rfl⟩ := List.mem_map.1 ht
  exact ⟨hp c hc, Sh2.sum_len _, Sh2.sum_lt _⟩
theorem lvs_sum : ∀ (l : List CoC), Aud.sum (lvs l) = Mon.tot (amts l)
  | [] => rfl
  | c :: r => by
    show Aud.sum (lfT c.tx c.amt :: lvs r) = Mon.tot (c.amt :: amts r)
    rw [Aud.sum_cons, lvs_sum r]; rfl
theorem eql_tot {w : World} {ops : Array Oper} {rest : List Oper} {o : Oper} {a : Act} {Q : Exit → Act → World → Prop} (hw : Region.wanted o (yielded ops a.tmps) = true)
    (x y : Operand) (yt : TypeId) (ho : o.op = .binOp .eql 38 x y yt) {t : Tot} (ht : t.d.length = 32) (hx : a.eval x = totV t) (hy : a.eval y = totV t)
    (h : wpList Tryd.prog ops Q rest (a.put o.dst (.bool true)) w) : wpList Tryd.prog ops Q (o :: rest) a w := by
  refine op_step hw fun K hK => ?_
  have e1 := run_eql_tot t ht w
  have e2 : (eqGuard .eql 38 x y (totV t) (totV t)).run Tryd.prog w = .ok () w := run_eqGuard_agg w .eql _ x y _ _ noGuardT
  unfold Oper.wp execOp
  simp only [ho, hx, hy, Sem.run_bind, Sem.run_pure, Result.andThen_ok, e1, e2]
  exact hK _ _ h
set_option maxHeartbeats 8000000 in
set_option maxRecDepth 100000 in
theorem audit_any (l : List CoC) (A0 : Option Addr) (n0 c0 : Nat) (a1 : Int) (w : World) (h : Coins w w.heap.size A0 n0 l) (hc0 : n0 ≤ c0) (f1 : (Lit.int .i64 a1).wf = true) (hL : Laid w) (h0 : 0 < w.heap.size) :
    Calls Tryd.prog 3 #[.slice A0 n0 c0, .int .i64 a1] w fun e w' => e = .returned (.bool true) ∧ Below w.heap.size w w' := by
  have H := hid h; have HL := hid hL; have HLEN := hid h.len
  have CS := hid (coinSum_any l A0 n0 c0 w.heap.size w h (Nat.le_refl _))
  clear h hL
  go_enter Tryd.func3, Tryd.ntmps3
  go_wp2_with fail
  refine (unhid CS).mono ?_
  rintro e w1 ⟨rfl, hb1⟩
  obtain ⟨N, hN⟩ : ∃ N, (sumC l).1 = N := ⟨_, rfl⟩
  obtain ⟨z, hz⟩ : ∃ z, (sumC l).2 = z := ⟨_, rfl⟩
  rw [hN, hz]
  have HN := hid hN; have HZ := hid hz; have B1 := hid hb1
  clear hN hz hb1 CS
  go_wp2_with (with_reducible refine halt_op (some 26) (.build _ _) (fun K hK => ?_))
  refine go_on hK ?_; clear hK
  refine build_c7 rfl (.tmp 25) rfl rfl ?_
  go_wp2_with (with_reducible refine halt_op (some 27) (.buildSlice _ _ _) (fun K hK => ?_))
  refine go_on hK ?_; clear hK
  refine build1 coinsE (by decide) rfl (.tmp 26) rfl (cs := coc c7) rfl (coc_len (by decide)) ?_
  intro b2
  obtain ⟨w2, hw2⟩ : ∃ W, W = w1.alloc (.cells (coc c7).toArray 35) := ⟨_, rfl⟩
  obtain ⟨g2, hg2⟩ : ∃ g, g = w1.heap.size := ⟨_, rfl⟩
  have E2 : Below w1.heap.size w1 w2 := by rw [hw2]; exact (Below.refl _ _).alloc (Nat.le_refl _) _
  rw [← hw2, ← hg2] at b2
  rw [← hw2, ← hg2]
  have B2 := hid ((unhid B1).trans (E2.mono (unhid B1).size))
  have CO := hid (coins_one b2 (c7_ok _ _))
  clear b2 hw2 hg2 E2
  go_wp2_with fail
  refine (coinSum_any [c7] _ 1 1 w2.heap.size w2 (unhid CO) (Nat.le_refl _)).mono ?_
  rintro e w3 ⟨rfl, hb3⟩
  rw [sum_c7]
  have he0 : errV (7, 0).2 = .nilIface := rfl
  have hB3 : Below w.heap.size w w3 := (unhid B2).trans (hb3.mono (unhid B2).size)
  have B3 := hid hB3
  have hs3 := hB3.size
  clear hb3 hB3 B2 B1 CO
  rw [he0]
  clear he0
  by_cases hz0 : z = 0
  case neg =>
    have he : errV z = .iface 52 (.int .i64 z) := by unfold errV; rw [if_neg hz0]
    rw [he]
    clear he hz0
    go_wp2_with fail
    go_ret
    exact ⟨rfl, unhid B3⟩
  case pos =>
  subst hz0
  have he : errV 0 = .nilIface := rfl
  rw [he]
  clear he
  have hck : checkN l = 0 := by
    have := HZ.out
    unfold sumC at this
    split at this
    · assumption
    · exact this
  have hsg : sumC l = Mon.sumGo 0 (amts l) := by unfold sumC; rw [if_pos hck]
  have hgood := Mon.sumGo_bad (amts l) 0 (Int.le_refl _) (by decide) (by rw [← hsg]; exact HZ.out)
  have hall : ∀ c ∈ l, 0 ≤ c.amt ∧ c.amt ≤ 1125899906842624 := (checkN_good hck).2
  have hNt : Mon.tot (amts l) = N := by
    have := Mon.sumGo_good (amts l) 0 (Int.le_refl _) hgood.1 hgood.2
    rw [← HN.out, hsg, this]; simp
  have HALL := hid hall
  have HNT := hid hNt
  have OKS := hid (lvs_oks (unhid H) (fun c hc => (hall c hc).1))
  have SUM : Hid (Aud.sum (lvs l) = N) := by show _ = _; rw [lvs_sum]; exact hNt
  have SUMB : Hid (Aud.sum (lvs l) ≤ 1125899906842624) := by
    have h2 := hgood.2
    have h3 : Mon.big = 1125899906842624 := rfl
    show _ ≤ _
    rw [lvs_sum]; omega
  clear hck hsg hgood hall hNt
  by_cases hbig : 256 < n0
  case pos =>
    have t1 : (256 : Int) < (n0 : Int) := by omega
    go_wp2_with fail
    go_ret
    exact ⟨rfl, unhid B3⟩
  case neg =>
  have t1 : ¬ ((256 : Int) < (n0 : Int)) := by omega
  have hn256 : n0 ≤ 256 := by omega
  clear hbig
  go_wp2_with fail
  go_loopw [9, 10] (fun v9 v10 wr => ∃ (i : Nat) (A2 : Option Addr) (c2 : Nat), i ≤ n0 ∧ v10 = .int .i64 (i : Int) ∧ v9 = .slice A2 i c2 ∧ Hid (Own wr w.heap.size 38 33 A2 i c2 (tcs (lvs (l.take i)))) ∧ Hid (Below w.heap.size w wr)) (fun _ v10 _ => n0 - lenI v10)
  case atStart => exact ⟨0, none, 0, Nat.zero_le _, rfl, rfl, Own.none _ _ _ _, B3⟩
  case round =>
    obtain ⟨i, A2, c2, hi, rfl, rfl, HO, HB⟩ := hrel
    have hsz := (unhid HB).size
    by_cases hlt : i < n0
    · obtain ⟨g, q, x, rfl, hg, hx, hrg, hok⟩ := ((unhid H).below (unhid HB)).get hlt
      have i2 : (i : Int) < (n0 : Int) := by omega
      have TXL := hid (unhid hok).tx
      have TX8 := hid (unhid hok).b8
      have UL : Hid ((up x.tx).length = 32) := by show _ = _; rw [up_len]; exact TXL.out
      have hxa := HALL.out x (List.mem_of_getElem? hx.out)
      have HXA := hid hxa
      have HT : Hid (lvs (l.take i) ++ [lfT x.tx x.amt] = lvs (l.take (i + 1))) := by
        show _ = _
        rw [List.take_add_one, hx.out]; simp [lvs]
      obtain ⟨wk, hwk⟩ : ∃ wk : World, wk = wr := ⟨_, rfl⟩
      rw [← hwk] at HB hsz hrg HO
      rw [← hwk]
      have RT : Hid (∀ W, Below wk.heap.size wk W → W.rangeAt g (q + i * 36) ((up x.tx).map (Value.int .u8))) := hid fun W hW j v hv => by
        have h1 := hrg.out j v (by rw [coc_eq]; unfold plc; rw [List.append_assoc, List.getElem?_append_left (List.getElem?_eq_some_iff.1 hv).1]; exact hv)
        rw [hW.cell (p := ⟨g, q + i * 36 + j, none⟩) (show g < wk.heap.size by omega)]; exact h1
      have RA : Hid (∀ W, Below wk.heap.size wk W → W.cell? ⟨g, q + i * 36 + 33, none⟩ = some (.int .i64 x.amt)) := hid fun W hW => by
        rw [hW.cell (p := ⟨g, q + i * 36 + 33, none⟩) (show g < wk.heap.size by omega)]
        exact (coin_cells hrg.out TXL.out).2.1
      clear hwk hok hx hxa hrg
      go_wp2_with fail
      refine wp_region_held_drew (S := fun w' => Below wk.heap.size wk w') (by kernel_rfl) ((Below.refl _ _).drew) (fun hS => ?_)
      refine wpAnyH_take (i := 0) (oi := { dst := some 51, op := Op.move (Operand.tmp 0), type := 22, pos := "top.go:157", after := #[], guard := none }) (v := .slice (some ⟨g, q, none⟩) n0 c0) rfl (by kernel_rfl) (by kernel_rfl) (by kernel_rfl) (fun _ _ _ h => h) (yields_of rfl (fun w => by go_simp)) hS ?_
      try simp only [Act.put, List.setIfInBounds_toArray, List.set_cons_zero, List.set_cons_succ]
      refine wpAnyH_take (i := 1) (oi := { dst := some 52, op := Op.move (Operand.tmp 10), type := 3, pos := "top.go:157", after := #[], guard := none }) (v := .int .i64 (i : Int)) rfl (by kernel_rfl) (by kernel_rfl) (by kernel_rfl) (fun _ _ _ h => h) (yields_of rfl (fun w => by go_simp)) hS ?_
      try simp only [Act.put, List.setIfInBounds_toArray, List.set_cons_zero, List.set_cons_succ]
      refine wpAnyH_take (i := 2) (oi := { dst := some 53, op := Op.indexAddr 22 (Operand.tmp 51) (Operand.tmp 52), type := 0, pos := "top.go:157", after := #[{ on := 0, ground := Ground.data }, { on := 1, ground := Ground.data }], guard := none }) (v := .pointer (some ⟨g, q + i * 36, none⟩)) rfl (by kernel_rfl) (by kernel_rfl) (by kernel_rfl) (fun _ _ _ h => h) (yields_of rfl (fun w => by go_simp)) hS ?_
      try simp only [Act.put, List.setIfInBounds_toArray, List.set_cons_zero, List.set_cons_succ]
      refine wpAnyH_take (i := 3) (oi := { dst := some 54, op := Op.fieldAddr 35 (Operand.tmp 53) 0, type := 0, pos := "top.go:157", after := #[{ on := 2, ground := Ground.data }], guard := none }) (v := .pointer (some ⟨g, q + i * 36, none⟩)) rfl (by kernel_rfl) (by kernel_rfl) (by kernel_rfl) (fun _ _ _ h => h) (yields_of rfl (fun w => by go_simp)) hS ?_
      try simp only [Act.put, List.setIfInBounds_toArray, List.set_cons_zero, List.set_cons_succ]
      refine wpAnyH_take (i := 4) (oi := { dst := some 55, op := Op.fieldAddr 33 (Operand.tmp 54) 0, type := 0, pos := "top.go:157", after := #[{ on := 3, ground := Ground.data }], guard := none }) (v := .pointer (some ⟨g, q + i * 36, none⟩)) rfl (by kernel_rfl) (by kernel_rfl) (by kernel_rfl) (fun _ _ _ h => h) (yields_of rfl (fun w => by go_simp)) hS ?_
      try simp only [Act.put, List.setIfInBounds_toArray, List.set_cons_zero, List.set_cons_succ]
      refine wpAnyH_take (i := 5) (oi := { dst := some 56, op := Op.load 31 (Operand.tmp 55), type := 31, pos := "top.go:157", after := #[{ on := 4, ground := Ground.data }], guard := none }) (v := .agg (cellsOf .u8 (up x.tx))) rfl (by kernel_rfl) (by kernel_rfl) (by kernel_rfl) (fun _ _ _ h => h) (yields_load digT rfl (.tmp 55) rfl rfl UL.out (fun w h => RT.out w h)) hS ?_
      try simp only [Act.put, List.setIfInBounds_toArray, List.set_cons_zero, List.set_cons_succ]
      refine wpAnyH_take (i := 6) (oi := { dst := some 57, op := Op.move (Operand.tmp 0), type := 22, pos := "top.go:157", after := #[], guard := none }) (v := .slice (some ⟨g, q, none⟩) n0 c0) rfl (by kernel_rfl) (by kernel_rfl) (by kernel_rfl) (fun _ _ _ h => h) (yields_of rfl (fun w => by go_simp)) hS ?_
      try simp only [Act.put, List.setIfInBounds_toArray, List.set_cons_zero, List.set_cons_succ]
      refine wpAnyH_take (i := 7) (oi := { dst := some 58, op := Op.move (Operand.tmp 10), type := 3, pos := "top.go:157", after := #[], guard := none }) (v := .int .i64 (i : Int)) rfl (by kernel_rfl) (by kernel_rfl) (by kernel_rfl) (fun _ _ _ h => h) (yields_of rfl (fun w => by go_simp)) hS ?_
      try simp only [Act.put, List.setIfInBounds_toArray, List.set_cons_zero, List.set_cons_succ]
      refine wpAnyH_take (i := 8) (oi := { dst := some 59, op := Op.indexAddr 22 (Operand.tmp 57) (Operand.tmp 58), type := 0, pos := "top.go:157", after := #[{ on := 6, ground := Ground.data }, { on := 7, ground := Ground.data }], guard := none }) (v := .pointer (some ⟨g, q + i * 36, none⟩)) rfl (by kernel_rfl) (by kernel_rfl) (by kernel_rfl) (fun _ _ _ h => h) (yields_of rfl (fun w => by go_simp)) hS ?_
      try simp only [Act.put, List.setIfInBounds_toArray, List.set_cons_zero, List.set_cons_succ]
      refine wpAnyH_take (i := 9) (oi := { dst := some 60, op := Op.fieldAddr 35 (Operand.tmp 59) 1, type := 0, pos := "top.go:157", after := #[{ on := 8, ground := Ground.data }], guard := none }) (v := .pointer (some ⟨g, q + i * 36 + 33, none⟩)) rfl (by kernel_rfl) (by kernel_rfl) (by kernel_rfl) (fun _ _ _ h => h) (yields_of rfl (fun w => by go_simp)) hS ?_
      try simp only [Act.put, List.setIfInBounds_toArray, List.set_cons_zero, List.set_cons_succ]
      refine wpAnyH_take (i := 10) (oi := { dst := some 61, op := Op.fieldAddr 29 (Operand.tmp 60) 0, type := 0, pos := "top.go:157", after := #[{ on := 9, ground := Ground.data }], guard := none }) (v := .pointer (some ⟨g, q + i * 36 + 33, none⟩)) rfl (by kernel_rfl) (by kernel_rfl) (by kernel_rfl) (fun _ _ _ h => h) (yields_of rfl (fun w => by go_simp)) hS ?_
      try simp only [Act.put, List.setIfInBounds_toArray, List.set_cons_zero, List.set_cons_succ]
      refine wpAnyH_take (i := 11) (oi := { dst := some 62, op := Op.load 3 (Operand.tmp 61), type := 3, pos := "top.go:157", after := #[{ on := 10, ground := Ground.data }], guard := none }) (v := .int .i64 x.amt) rfl (by kernel_rfl) (by kernel_rfl) (by kernel_rfl) (fun _ _ _ h => h) (.inl ⟨rfl, fun w h => by have e := RA.out w h; go_simp⟩) hS ?_
      try simp only [Act.put, List.setIfInBounds_toArray, List.set_cons_zero, List.set_cons_succ]
      have hbd : Below wk.heap.size wk wk.drew := (Below.refl _ _).drew
      obtain ⟨wd, hwd⟩ : ∃ W, W = wk.drew := ⟨_, rfl⟩
      rw [← hwd] at hbd
      rw [← hwd]
      clear hwd hS
      have TZ : Hid ((tc zeroT).toArray.size = 33) := by show _ = _; simp [tc, zeroT, bytes, up]
      have TL : Hid ((tc (lfT x.tx x.amt)).length = 33) := tc_len (Sh2.sum_len _)
      refine wpAnyH_ready (rs := [12, 16]) (by kernel_rfl) (by simp) ?_
      refine AllReadyH.cons (o := _) rfl (fun K hK => ?oa) (AllReadyH.cons (o := _) rfl (fun K hK => ?ob) AllReadyH.nil)
      case' oa =>
        go_simp
        refine (leaf_any x.tx x.amt _ TXL.out TX8.out HXA.out.1 HXA.out.2 ((unhid HL).below ((unhid HB).trans (hbd.mono hsz)) h0) (by have := hbd.size; omega)).mono ?_
        rintro e w5 ⟨rfl, hq5⟩
        have h5 := hbd.trans (hq5.mono hbd.size)
        go_wp2_with fail
        refine hK.out _ _ h5 (fun hS1 => ?_)
        refine wpAnyH_take (i := 13) (oi := { dst := some 50, op := Op.move (Operand.tmp 63), type := 39, pos := "top.go:157", after := #[{ on := 12, ground := Ground.data }], guard := none }) (v := .tuple #[totV (lfT x.tx x.amt), .nilIface]) rfl (by kernel_rfl) (by kernel_rfl) (by kernel_rfl) (fun _ _ _ h => h) (yields_of rfl (fun w => by go_simp)) hS1 ?_
        try simp only [Act.put, List.setIfInBounds_toArray, List.set_cons_zero, List.set_cons_succ]
        refine wpAnyH_take (i := 14) (oi := { dst := some 64, op := Op.extract (Operand.tmp 50) 0, type := 38, pos := "top.go:157", after := #[{ on := 13, ground := Ground.data }], guard := none }) (v := totV (lfT x.tx x.amt)) rfl (by kernel_rfl) (by kernel_rfl) (by kernel_rfl) (fun _ _ _ h => h) (yields_of rfl (fun w => by go_simp)) hS1 ?_
        try simp only [Act.put, List.setIfInBounds_toArray, List.set_cons_zero, List.set_cons_succ]
        refine wpAnyH_take (i := 15) (oi := { dst := some 65, op := Op.extract (Operand.tmp 50) 1, type := 24, pos := "top.go:157", after := #[{ on := 13, ground := Ground.data }, { on := 17, ground := Ground.gcOnly Departure.lateStores }], guard := none }) (v := .nilIface) rfl (by kernel_rfl) (by kernel_rfl) (by kernel_rfl) (fun _ _ _ h => h) (yields_of rfl (fun w => by go_simp)) hS1 ?_
        try simp only [Act.put, List.setIfInBounds_toArray, List.set_cons_zero, List.set_cons_succ]
        refine wpAnyH_ready (rs := [16]) (by kernel_rfl) (by simp) ?_
        refine AllReadyH.cons (o := _) rfl (fun K hK => ?_) AllReadyH.nil
        refine if_step (by kernel_rfl) ?_
        refine alloc_row_wp _ totZ rfl ?_
        rintro ga w6 hga s6 b6 e6
        have h6 := h5.trans (e6.mono (by have := h5.size; omega))
        have BA := hid b6
        have hga' : wk.heap.size ≤ ga := by have := h5.size; omega
        clear b6 e6 hga s6 hq5 hbd hS1
        refine hK.out _ _ h6 (fun _ => ?_)
      case' ob =>
        refine if_step (by kernel_rfl) ?_
        refine alloc_row_wp _ totZ rfl ?_
        rintro ga w5 hga s5 b5 e5
        have h5 := hbd.trans (e5.mono (by have := hbd.size; omega))
        have hga' : wk.heap.size ≤ ga := by have := hbd.size; omega
        have hga5 : ga < w5.heap.size := by omega
        clear e5 hga s5
        refine hK.out _ _ h5 (fun _ => ?_)
        refine wpAnyH_ready (rs := [12]) (by kernel_rfl) (by simp) ?_
        refine AllReadyH.cons (o := _) rfl (fun K hK => ?_) AllReadyH.nil
        go_simp
        refine (leaf_any x.tx x.amt _ TXL.out TX8.out HXA.out.1 HXA.out.2 ((unhid HL).below ((unhid HB).trans (h5.mono hsz)) h0) (by have := h5.size; omega)).mono ?_
        rintro e w6 ⟨rfl, hq6⟩
        have h6 := h5.trans (hq6.mono h5.size)
        have BA := hid (b5.below hq6 hga5)
        clear b5 hq6 hbd hga5
        go_wp2_with fail
        refine hK.out _ _ h6 (fun hS1 => ?_)
        refine wpAnyH_take (i := 13) (oi := { dst := some 50, op := Op.move (Operand.tmp 63), type := 39, pos := "top.go:157", after := #[{ on := 12, ground := Ground.data }], guard := none }) (v := .tuple #[totV (lfT x.tx x.amt), .nilIface]) rfl (by kernel_rfl) (by kernel_rfl) (by kernel_rfl) (fun _ _ _ h => h) (yields_of rfl (fun w => by go_simp)) hS1 ?_
        try simp only [Act.put, List.setIfInBounds_toArray, List.set_cons_zero, List.set_cons_succ]
        refine wpAnyH_take (i := 14) (oi := { dst := some 64, op := Op.extract (Operand.tmp 50) 0, type := 38, pos := "top.go:157", after := #[{ on := 13, ground := Ground.data }], guard := none }) (v := totV (lfT x.tx x.amt)) rfl (by kernel_rfl) (by kernel_rfl) (by kernel_rfl) (fun _ _ _ h => h) (yields_of rfl (fun w => by go_simp)) hS1 ?_
        try simp only [Act.put, List.setIfInBounds_toArray, List.set_cons_zero, List.set_cons_succ]
        refine wpAnyH_take (i := 15) (oi := { dst := some 65, op := Op.extract (Operand.tmp 50) 1, type := 24, pos := "top.go:157", after := #[{ on := 13, ground := Ground.data }, { on := 17, ground := Ground.gcOnly Departure.lateStores }], guard := none }) (v := .nilIface) rfl (by kernel_rfl) (by kernel_rfl) (by kernel_rfl) (fun _ _ _ h => h) (yields_of rfl (fun w => by go_simp)) hS1 ?_
        try simp only [Act.put, List.setIfInBounds_toArray, List.set_cons_zero, List.set_cons_succ]
        clear hS1
      all_goals
        refine wpAnyH_ready (rs := [17]) (by kernel_rfl) (by simp) ?_
        refine AllReadyH.cons (o := _) rfl (fun K hK => ?_) AllReadyH.nil
        refine if_step (by kernel_rfl) ?_
        refine store_row_wp totT (vs := tc (lfT x.tx x.amt)) (.tmp 11) (.tmp 64) rfl rfl rfl TL.out (tc_one _) (unhid BA) TZ.out ?_
        intro w7 b7 g7
        have h7 : Below wk.heap.size wk w7 := h6.grown g7 (by have := h6.size; omega) (fun q hq => by injection hq with hq; omega)
        have BA := hid b7
        clear b7 g7 h6 h5
        refine hK.out _ _ h7 (fun _ => ?_)
        refine wpAnyH_ready (rs := [18]) (by kernel_rfl) (by simp) ?_
        refine AllReadyH.cons (o := _) rfl (fun K hK => ?_) AllReadyH.nil
        go_simp
        refine hK.out _ _ h7 (fun _ => ?_)
        refine wpAnyH_done (by kernel_rfl) ?_ _
        have HB7 := hid ((unhid HB).trans (h7.mono hsz))
        have HO7 := hid ((unhid HO).below h7 (Nat.le_refl _))
        have hs7 := (unhid HB7).size
        clear h7 HB HO RT RA
        go_wp2_with (with_reducible refine halt_op (some 69) (.load _ _) (fun K hK => ?_))
        refine go_on hK ?_; clear hK
        refine load_row totT rfl (.tmp 11) rfl rfl (unhid BA) TL.out ?_
        refine build1 totsE (by decide) rfl (.tmp 69) rfl (cs := tc (lfT x.tx x.amt)) rfl TL.out ?_
        intro b8
        obtain ⟨w8, hw8⟩ : ∃ W, W = w7.alloc (.cells (tc (lfT x.tx x.amt)).toArray 38) := ⟨_, rfl⟩
        obtain ⟨g8, hg8⟩ : ∃ g, g = w7.heap.size := ⟨_, rfl⟩
        have E8 : Below w7.heap.size w7 w8 := by rw [hw8]; exact (Below.refl _ _).alloc (Nat.le_refl _) _
        rw [← hw8, ← hg8] at b8
        rw [← hw8, ← hg8]
        have B8 := hid b8
        have HB8 := hid ((unhid HB7).trans (E8.mono hs7))
        have HO8 := hid ((unhid HO7).below E8 (Nat.le_refl _))
        have hs8 := (unhid HB8).size
        clear b8 hw8 hg8 E8 HO7 HB7
        go_wp2_with (at_builtin; refine halt_at (fun K hK => ?_))
        refine go_on hK ?_; clear hK
        refine app_tot rfl (.tmp 68) (.tmp 70) rfl rfl (unhid HO8) rfl (unhid B8) (Sh2.sum_len _) (by omega) hs8 ?_
        intro A9 c9 w9 o9 g9
        rw [HT.out] at o9
        have O9 := hid o9
        have B9 := hid ((unhid HB8).trans ((Below.refl _ _).grown g9 hs8 (fun q hq => ((unhid HO8).from_ q hq).1)))
        clear o9 g9 HO8 HB8
        go_wp2_with fail
        go_roundw
        case rel => exact ⟨i + 1, A9, c9, by omega, by go_num, rfl, O9, B9⟩
        case measure => simp [lenI, intOf]; omega
    · have hin : i = n0 := by omega
      subst hin
      rw [List.take_of_length_le (by rw [HLEN.out]; exact Nat.le_refl _)] at HO
      obtain ⟨ts, hts⟩ : ∃ ts, ts = lvs l := ⟨_, rfl⟩
      rw [← hts] at HO OKS SUM SUMB
      have TLEN : Hid (ts.length = i) := by show _ = _; rw [hts]; unfold lvs; rw [List.length_map]; exact HLEN.out
      have LE := hid (unhid HO).le.1
      have TOT := hid (Tots.mk (Row.of_own (unhid HO)) TLEN.out (unhid OKS) SUMB.out)
      have RS : Hid ((rootT ts).s = N) := by show _ = _; rw [(rootT_ok (unhid OKS)).2, SUM.out]
      have RO := hid (rootT_ok (unhid OKS)).1
      have TR := hid (tc_len (unhid RO).2.1)
      clear hts hlt
      go_wp2_with fail
      refine (Root_any i ts A2 c2 _ _ hn256 LE.out (unhid TOT) (Nat.le_refl _) ((unhid HL).below (unhid HB) h0) (by omega)).mono ?_
      rintro e w5 ⟨rfl, hq5⟩
      have B5 := hid ((unhid HB).trans (hq5.mono hsz))
      have T5 := hid ((unhid TOT).below hq5)
      have hs5 := hq5.size
      clear hq5 HB TOT HO
      go_wp2_with (with_reducible refine halt_op (some 13) (.alloc _) (fun K hK => ?_))
      refine go_on hK ?_; clear hK
      refine alloc_row _ totZ rfl rfl ?_
      rintro gr w6 hgr s6 b6 e6
      refine store_row totT (vs := tc (rootT ts)) rfl (.tmp 13) (.tmp 75) rfl rfl rfl TR.out (tc_one _) b6 (by simp [tc, zeroT, bytes, up]) ?_
      intro w7 b7 g7
      have E7 : Below gr w5 w7 := e6.grown g7 (by omega) (fun q hq => by injection hq with hq; omega)
      have hgr5 : w5.heap.size ≤ gr := by omega
      have BR := hid b7
      have hgr7 : gr < w7.heap.size := b7.lt'
      have B7 := hid ((unhid B5).trans (E7.mono (by have := (unhid B5).size; omega)))
      have T7 := hid ((unhid T5).below (E7.mono (by omega)))
      have cr : w7.cell? ⟨gr, 0, none⟩ = some (.int .i64 N) := by rw [Blk.amt b7, RS.out]
      clear b6 e6 hgr s6 b7 g7 E7 B5 T5
      by_cases ha : a1 < 0
      · go_wp2_with fail
        go_ret
        exact ⟨rfl, unhid B7⟩
      · by_cases hb : (i : Int) ≤ a1
        · go_wp2_with fail
          go_ret
          exact ⟨rfl, unhid B7⟩
        · obtain ⟨j, rfl⟩ := Int.eq_ofNat_of_zero_le (show 0 ≤ a1 by omega)
          have hji : j < i := by omega
          have k1 : ¬ i ≤ j := by omega
          have k2 : (j : Int) < (i : Int) := by omega
          clear ha hb
          go_wp2_with fail
          refine (path_any ts A2 i c2 _ j _ hn256 LE.out hji (unhid T7) (by omega) ((unhid HL).below (unhid B7) h0) (by have := (unhid B7).size; omega)).mono ?_
          rintro e w8 ⟨AP, mP, cP, rfl, hmP, hcP, oP, hq8⟩
          have BR8 := hid ((unhid BR).below hq8 hgr7)
          have B8 := hid ((unhid B7).trans (hq8.mono (unhid B7).size))
          have T8 := hid ((unhid T7).below (hq8.mono (by omega)))
          obtain ⟨g, o, t, rfl, hg, htj, _, hrt, hot, _⟩ := (unhid T8).get hji
          have PO : Oks (pathT ts j) ∧ t.s + Aud.sum (pathT ts j) = Aud.sum ts := path_ok nodeLaw j ts (unhid OKS) (by rw [TLEN.out]; exact hji) t htj.out
          have OP := hid oP
          have TP := hid (Tots.mk (Row.of_own oP) hmP (Aud.Oks.reverse PO.1) (by rw [sum_reverse]; have h1 := PO.2; have h2 := hot.1; have h3 := SUMB.out; omega))
          have SL : Hid ((sides j i).length = mP) := by
            show _ = _
            rw [← hmP, List.length_reverse]
            have := path_len ndT ndE j ts
            rw [TLEN.out] at this
            exact this.symm
          have SB : Hid (t.s + Aud.sum (pathT ts j).reverse ≤ 1125899906842624) := by
            have h1 := PO.2; have h3 := SUMB.out
            show _ ≤ _
            rw [sum_reverse]; omega
          have FL : Hid (foldT t (sides j i).reverse (pathT ts j).reverse = rootT ts) := by
            have := fold_law ndT ndE j ts (by rw [TLEN.out]; exact hji) t htj.out
            rw [TLEN.out] at this
            exact this
          have TT := hid (tc_len hot.2.1)
          have HOT := hid hot
          have hs8 := (unhid B8).size
          have hgr8 : gr < w8.heap.size := by have := hq8.size; omega
          clear hq8 PO oP hmP htj hot BR B7 T7 T8 OP cr
          go_wp2_with (with_reducible refine halt_op (some 103) (.load _ _) (fun K hK => ?_))
          refine go_on hK ?_; clear hK
          refine load_mid totT rfl (.tmp 102) rfl rfl (unhid hrt) TT.out ?_
          go_wp2_with fail
          refine (fold_any t j i _ AP mP cP _ _ hn256 hji (unhid HOT) (unhid TP) SL.out SB.out (Nat.le_refl _) ((unhid HL).below (unhid B8) h0) (by omega)).mono ?_
          rintro e w9 ⟨rfl, hq9⟩
          rw [FL.out]
          have BR9 := hid ((unhid BR8).below hq9 hgr8)
          have B9 := hid ((unhid B8).trans (hq9.mono hs8))
          have hs9 := hq9.size
          clear hq9 BR8 B8 TP hrt
          go_wp2_with (with_reducible refine halt_op (some 17) (.alloc _) (fun K hK => ?_))
          refine go_on hK ?_; clear hK
          refine alloc_row _ totZ rfl rfl ?_
          rintro gx wa hgx sa ba ea
          refine store_row totT (vs := tc (rootT ts)) rfl (.tmp 17) (.tmp 109) rfl rfl rfl TR.out (tc_one _) ba (by simp [tc, zeroT, bytes, up]) ?_
          intro wb bb gb
          have Eb : Below gx w9 wb := ea.grown gb (by omega) (fun q hq => by injection hq with hq; omega)
          have BX := hid bb
          have BRb := hid ((unhid BR9).below Eb (by omega))
          have Bb := hid ((unhid B9).trans (Eb.mono (by have := (unhid B9).size; omega)))
          clear ba ea hgx sa bb gb Eb BR9 B9
          go_wp2_with (with_reducible refine halt_op (some 118) (.load _ _) (fun K hK => ?_))
          refine go_on hK ?_; clear hK
          refine load_row totT rfl (.tmp 17) rfl rfl (unhid BX) TR.out ?_
          refine load_row totT rfl (.tmp 13) rfl rfl (unhid BRb) TR.out ?_
          refine eql_tot rfl (.tmp 118) (.tmp 119) 38 rfl (t := rootT ts) (unhid RO).2.1 rfl rfl ?_
          go_wp2_with fail
          go_ret
          exact ⟨rfl, unhid Bb⟩
theorem topAudit_walk (A0 : Option Addr) (n0 c0 m0 : Nat) (a1 : Int) (w : World) (s0 : Sh.ok w w.heap.size (.slice 36 (coinSh)) m0 [.slice A0 n0 c0]) (f1 : (Lit.int .i64 a1).wf = true) (hL : Laid w) (h0 : 0 < w.heap.size) :
    Calls Tryd.prog 3 #[.slice A0 n0 c0, .int .i64 a1] w fun e w' => e = .returned (.bool true) ∧ Below w.heap.size w w' := by
  obtain ⟨A, n, c, l, e, g1, g2, g3⟩ := Sh.coins s0
  injection e with e1 e2 e3
  subst e1; subst e2; subst e3
  exact audit_any l A0 n0 c0 a1 w g3 g1 f1 hL h0
end Go.Proofs.YtjdffhlbiiefaaaDoor
