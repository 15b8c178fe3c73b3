/- The walk of bid.Award. -/
import Derived.Test.YtlaoijnlemgdfaaDoorBidSortW
import Derived.Test.YtlaoijnlemgdfaaDoorBidFindW
import Derived.OwnWalk
import Derived.Deep.RegionHeld
namespace Go.Proofs.YtlaoijnlemgdfaaDoor
set_option linter.unusedVariables false
open Go.RowKit Go.Mny
theorem yields_neqD {P : Program} {t e n : Nat} {k : IntKind} (T : ArrI P t e n k) (hg : P.eqGuardType P.depth t = false) {ops : Array Oper} {S : World → Prop} {o : Oper} {a : Act} (hw : Region.wanted o (yielded ops a.tmps) = true)
    (x y : Operand) (yt : TypeId) (ho : o.op = .binOp .neq t x y yt) {l1 l2 : List Int} (hx : a.eval x = .agg (cellsOf k l1)) (hy : a.eval y = .agg (cellsOf k l2)) (h1 : l1.length = n) (h2 : l2.length = n)
    {b : Bool} (hb : b = decide (l1 ≠ l2)) : YieldsIf P ops S o (.bool b) a := by
  refine .inl ⟨hw, fun w _ => ?_⟩
  have e1 : (binOp .neq t (.agg (cellsOf k l1)) (.agg (cellsOf k l2))).run P w = .ok (.bool b) w := by
    rw [run_neq_struct, run_eq_arr T w 9998 l1 l2 h1 h2, hb]; by_cases h : l1 = l2 <;> simp [h]
  have e2 : (eqGuard .neq t x y (.agg (cellsOf k l1)) (.agg (cellsOf k l2))).run P w = .ok () w := by
    unfold eqGuard; simp [run_program, Sem.run_bind, hg]
  unfold execOp
  simp only [ho, hx, hy, Sem.run_bind, Sem.run_pure, Result.andThen_ok, e1, e2]
/-- a bid that opens its vow -/
def okB (Vs : List (List Int)) (b : Bd) : Prop := vowOk b ∧ b.who < (Vs.length : Int) ∧ Vs.getD b.who.toNat [] = up (vowB b)
instance (Vs : List (List Int)) (b : Bd) : Decidable (okB Vs b) := by unfold okB; infer_instance
def cstep (Vs : List (List Int)) (cs : List Bd) (b : Bd) : List Bd := if okB Vs b ∧ ¬ ∃ c ∈ cs, c.who = b.who then cs ++ [b] else cs
instance (cs : List Bd) (x : Int) : Decidable (∃ c ∈ cs, c.who = x) := by infer_instance
def cnts (Vs : List (List Int)) (bs : List Bd) : List Bd := bs.foldl (cstep Vs) []
theorem cnts_succ {Vs : List (List Int)} {bs : List Bd} {i : Nat} {b : Bd} (h : bs[i]? = some b) : cnts Vs (bs.take (i + 1)) = cstep Vs (cnts Vs (bs.take i)) b := by
  unfold cnts
  rw [List.take_add_one, h, Option.toList_some, List.foldl_append]; rfl
theorem cnts_from (Vs : List (List Int)) : ∀ (bs cs : List Bd) (c : Bd), c ∈ bs.foldl (cstep Vs) cs → c ∈ cs ∨ c ∈ bs
  | [], cs, c, h => .inl h
  | b :: bs, cs, c, h => by
    rw [List.foldl_cons] at h
    rcases cnts_from Vs bs _ c h with h | h
    · unfold cstep at h
      split at h
      · rcases List.mem_append.1 h with h | h
        · exact .inl h
        · rw [List.mem_singleton] at h; exact .inr (by simp [h])
      · exact .inl h
    · exact .inr (by simp [h])
theorem cnts_len (Vs : List (List Int)) : ∀ (bs cs : List Bd), (bs.foldl (cstep Vs) cs).length ≤ cs.length + bs.length
  | [], cs => by simp
  | b :: bs, cs => by
    rw [List.foldl_cons]
    have h := cnts_len Vs bs (cstep Vs cs b)
    have : (cstep Vs cs b).length ≤ cs.length + 1 := by unfold cstep; split <;> simp
    simp only [List.length_cons]; omega
/-- what Award tells: of bids that count, the best one's owner and what is paid -/
def awardN (cs : List Bd) (least : Int) : Int × Int :=
  match cs with
  | [] => (-1, 0)
  | b :: r => if b.amt < least then (-1, 0) else (b.who, match r with | [] => least | c :: _ => max least c.amt)
def AwP (Vs : List (List Int)) (bs : List Bd) (least : Int) (w : World) (e : Ending) (w' : World) : Prop :=
  (∃ cs' : List Bd, cs'.Perm (cnts Vs bs) ∧ cs'.Pairwise (fun x y => ¬ ltB y x) ∧ e = .returned (.tuple #[.int .i64 (awardN cs' least).1, .int .i64 (awardN cs' least).2, .nilIface])) ∧ Below w.heap.size w w'
set_option maxHeartbeats 4000000 in
set_option maxRecDepth 100000 in
theorem award_yes (Vs : List (List Int)) (bs : List Bd) (A0 A1 : Option Addr) (n0 c0 n1 c1 D : Nat) (least : Int) (w : World) (hV : Row w D 32 A0 n0 (Vs.flatten.map (Value.int .u8))) (hVl : Vs.length = n0) (hV2 : ∀ l ∈ Vs, l.length = 32)
    (hB : Row w D 34 A1 n1 (bs.map bc).flatten) (hBl : bs.length = n1) (hB2 : ∀ b ∈ bs, BdOk b) (hD : D ≤ w.heap.size) (h0 : 0 ≤ least) (h1 : n0 ≤ 100) (h2 : n1 ≤ 100) (hL : Laid w) (hr : 1 < w.heap.size) :
    Calls Tryd.prog 26 #[.slice A0 n0 c0, .slice A1 n1 c1, .int .i64 least] w (AwP Vs bs least w) := by
  have HV := hid hV; have HVL := hid hVl; have HV2 := hid hV2; have HBR := hid hB; have HBL := hid hBl; have HB2 := hid hB2; have HL := hid hL
  have HS := hid (fun b (h : b ∈ bs) => (hB2 b h).1)
  have t1 : (n0 : Int) ≤ 100 := by omega
  have t2 : (n1 : Int) ≤ 100 := by omega
  clear hV hVl hV2 hB hBl hB2 hL
  go_enter Tryd.func26, Tryd.ntmps26
  go_wp2_with fail
  go_loopw [9, 29] (fun v9 v29 wr => ∃ (i nc : Nat) (AC : Option Addr) (cC : Nat) (cs : List Bd), i ≤ n1 ∧ v29 = .int .i64 i ∧ v9 = .slice AC nc cC ∧ nc ≤ i ∧ Hid (cs = cnts Vs (bs.take i)) ∧ Hid (cs.length = nc) ∧ Hid (∀ c ∈ cs, c.salt.length = 32) ∧ Hid (Own wr w.heap.size 62 34 AC nc cC (cs.map bc).flatten) ∧ Hid (Below w.heap.size w wr)) (fun _ v29 _ => n1 - (intOf v29).toNat)
  case atStart => exact ⟨0, 0, none, 0, [], Nat.zero_le _, rfl, rfl, Nat.le_refl _, hid (by rw [List.take_zero]; rfl), hid rfl, hid (fun c h => by cases h), Own.none _ _ _ _, Below.refl _ _⟩
  case round =>
    obtain ⟨i, nc, AC, cC, cs, hi, rfl, rfl, hnc, HC, HCL, HCS, HO, HB⟩ := hrel
    have hsw := (unhid HB).size
    by_cases hin : i < n1
    · obtain ⟨b, hb⟩ : ∃ b, bs[i]? = some b := ⟨_, List.getElem?_eq_getElem (by rw [HBL.out]; exact hin)⟩
      have hbm := List.mem_of_getElem? hb
      have hbk := HB2.out b hbm
      obtain ⟨gb, ob, rfl, hgb, HRG⟩ := bids_at ((unhid HBR).below ((unhid HB).mono hD)) HS.out hin hb
      have HLb := hid (bc_len hbk.1)
      have HBI := hid hb; have HBK := hid hbk
      obtain ⟨wk, hwk⟩ : ∃ wk : World, wk = wr := ⟨_, rfl⟩
      rw [← hwk] at HRG HO HB hsw
      rw [← hwk]
      clear hwk hb hbm hbk
      have i1 : (0 : Int) ≤ (i : Int) := by omega
      have i2 : (i : Int) < (n1 : Int) := by omega
      go_wp2_with (with_reducible refine halt_op (some 32) (.load _ _) (fun K hK => ?_))
      refine go_on hK ?_; clear hK
      refine load_mid bidT rfl (.tmp 31) rfl rfl (unhid HRG) HLb.out ?_
      go_wp2_with (with_reducible refine halt_op (some 11) (.alloc _) (fun K hK => ?_))
      refine go_on hK ?_; clear hK
      refine alloc_row bidZ (n := 34) (by simp [Value.cells]) rfl rfl ?_
      intro g11 w2 cur hg11 s2 hcs b2 e2
      go_wp2_with (with_reducible refine halt_op none (.store _ _ _) (fun K hK => ?_))
      refine go_on hK ?_; clear hK
      refine store_mid bidT rfl (.tmp 11) (.tmp 32) rfl (q := 0) (vs := bc b) rfl rfl HLb.out (bc_one b) b2 (by rw [HLb.out, hcs]; exact Nat.le_refl _) ?_
      intro w3 b3 g3
      rw [splice_all (by rw [HLb.out]; exact hcs)] at b3
      have hz3 := g3.size
      have E3' : Below wk.heap.size wk w3 := (e2.mono (show wk.heap.size ≤ g11 by omega)).grown g3 (by omega) (fun q hq => by have e9 : g11 = q := Option.some.inj hq; omega)
      have B3 := hid b3; have E3 := hid E3'
      have hk11 : wk.heap.size ≤ g11 := by omega
      have h113 : g11 < w3.heap.size := by omega
      have hsk : wk.heap.size ≤ w3.heap.size := by omega
      clear b2 e2 hg11 s2 hcs b3 g3 E3' hz3 HRG
      go_wp2_with (with_reducible refine halt_op (some 34) (.load _ _) (fun K hK => ?_))
      refine go_on hK ?_; clear hK
      refine load_mid bidT rfl (.tmp 11) rfl rfl (Blk.rng (unhid B3)) HLb.out ?_
      have EW3 := hid ((unhid HB).trans ((unhid E3).mono hsw))
      by_cases hvk : vowOk b
      · obtain ⟨x, hx⟩ := Int.eq_ofNat_of_zero_le hvk.1
        have VY := hid (vow_yes b w3 HBK.out hvk ((unhid HL).below (unhid EW3) hr) (Nat.lt_of_lt_of_le hr (unhid EW3).size))
        unfold bidV at VY
        have HVK := hid hvk; have HX := hid hx
        clear hvk hx
        go_wp2_with fail
        refine (unhid VY).mono ?_
        rintro e w4 ⟨rfl, hb4⟩
        have B4 := hid ((unhid B3).below hb4 h113)
        have E4 := hid ((unhid E3).trans (hb4.mono hsk))
        have hz4 := hb4.size
        clear hb4 VY B3 E3
        go_wp2_with (with_reducible refine halt_op (some 12) (.alloc _) (fun K hK => ?_))
        refine go_on hK ?_; clear hK
        refine alloc_arr digT rfl rfl ?_
        rintro g12 w5 hg12 s5 b5 e5
        go_wp2_with (with_reducible refine halt_op none (.store _ _ _) (fun K hK => ?_))
        refine go_on hK ?_; clear hK
        refine store_arr digT (l := up (vowB b)) rfl (.tmp 12) (.tmp 36) rfl rfl rfl (sum_len_u _) b5 (by simp [cellsOf]) ?_
        intro w6 b6 g6
        have hz6 := g6.size
        have E46 : Below g12 w4 w6 := e5.grown g6 (by omega) (fun q hq => by have e9 : g12 = q := Option.some.inj hq; omega)
        have B6 := hid ((unhid B4).below E46 (by omega))
        have C6 := hid b6
        have E6 := hid ((unhid E4).trans (E46.mono (show wk.heap.size ≤ g12 by omega)))
        have h116 : g11 < w6.heap.size := by omega
        have h126 : g12 < w6.heap.size := by omega
        have hsk6 : wk.heap.size ≤ w6.heap.size := by omega
        clear b5 e5 hg12 s5 b6 g6 hz6 E46 B4 E4 hz4
        go_wp2_with fail
        obtain ⟨w7, hw7⟩ : ∃ w7 : World, w7 = w6 := ⟨_, rfl⟩
        rw [← hw7] at B6 C6 E6 h116 h126 hsk6
        rw [← hw7]
        clear hw7
        have CW : Hid (∀ W, Below w7.heap.size w7 W → W.cell? ⟨g11, 0, none⟩ = some (.int .i64 (x : Int))) := hid fun W hW => by
          rw [Blk.cell_of ((unhid B6).below hW h116), ← HX.out]; rfl
        have CY : Hid (∀ W, Below w7.heap.size w7 W → W.rangeAt g12 0 ((up (vowB b)).map (Value.int .u8))) := hid fun W hW => ((unhid C6).below hW h126).range
        have EW7 := hid ((unhid HB).trans ((unhid E6).mono hsw))
        by_cases hxn : x < n0
        · obtain ⟨dv, hdv⟩ : ∃ d, Vs[x]? = some d := ⟨_, List.getElem?_eq_getElem (by rw [HVL.out]; exact hxn)⟩
          obtain ⟨gv, ov, rfl, hgv, HVR⟩ := ((unhid HV).below ((unhid EW7).mono hD)).elem hxn
          have hfl : ((Vs.flatten.map (Value.int .u8)).drop (x * 32)).take 32 = dv.map (Value.int .u8) := by
            rw [← List.map_drop, ← List.map_take, flat_at HV2.out hdv]
          rw [hfl] at HVR
          have CV : Hid (∀ W, Below w7.heap.size w7 W → W.rangeAt gv (ov + x * 32) (dv.map (Value.int .u8))) := hid fun W hW j v hv => by
            have := HVR.out j v hv
            exact (hW.cell (p := ⟨gv, ov + x * 32 + j, none⟩) (by show gv < _; have := (unhid EW7).size; omega)).trans this
          have HDL := hid (HV2.out dv (List.mem_of_getElem? hdv))
          have hgd : Vs.getD b.who.toNat [] = dv := by rw [HX.out]; show Vs.getD x [] = dv; rw [List.getD_eq_getElem?_getD, hdv]; rfl
          have HGD := hid hgd
          have x1 : (0 : Int) ≤ (x : Int) := by omega
          have x2 : (x : Int) < (n0 : Int) := by omega
          clear hfl HVR hgd hdv
          by_cases hne : dv = up (vowB b)
          · have HNE : Hid (false = decide (dv ≠ up (vowB b))) := hid (by simp [hne])
            have hok : okB Vs b := ⟨HVK.out, by rw [HX.out, HVL.out]; omega, by rw [HGD.out]; exact hne⟩
            have HOK := hid hok
            clear hne hok
            refine wp_region_held_drew (S := fun w' => Below w7.heap.size w7 w') (by kernel_rfl) ((Below.refl _ _).drew) (fun hS => ?_)
            refine wpAnyH_take (i := 0) (oi := { dst := some 38, op := Op.move (Operand.tmp 13), type := 34, pos := "bid.go:40", after := #[], guard := none }) (v := .nilIface) rfl (by kernel_rfl) (by kernel_rfl) (by kernel_rfl) (fun _ _ _ h => h) (yields_of rfl (fun w => by go_simp)) hS ?_
            try simp only [Act.put, List.setIfInBounds_toArray, List.set_cons_zero, List.set_cons_succ]
            refine wpAnyH_take (i := 1) (oi := { dst := some 39, op := Op.binOp BinOp.neq 34 (Operand.tmp 38) (Operand.const Value.nilIface) 34, type := 4, pos := "bid.go:40", after := #[{ on := 0, ground := Ground.data }], guard := none }) (v := (.bool false)) rfl (by kernel_rfl) (by kernel_rfl) (by kernel_rfl) (fun _ _ _ h => h) (yields_of rfl (fun w => by go_simp)) hS ?_
            try simp only [Act.put, List.setIfInBounds_toArray, List.set_cons_zero, List.set_cons_succ]
            refine wpAnyH_take (i := 2) (oi := { dst := some 40, op := Op.move (Operand.tmp 39), type := 4, pos := "bid.go:40", after := #[{ on := 1, ground := Ground.data }], guard := none }) (v := (.bool false)) rfl (by kernel_rfl) (by kernel_rfl) (by kernel_rfl) (fun _ _ _ h => h) (yields_of rfl (fun w => by go_simp)) hS ?_
            try simp only [Act.put, List.setIfInBounds_toArray, List.set_cons_zero, List.set_cons_succ]
            refine wpAnyH_take (i := 3) (oi := { dst := some 41, op := Op.fieldAddr 62 (Operand.tmp 11) 0, type := 0, pos := "bid.go:40", after := #[{ on := 2, ground := Ground.guard }], guard := some (2, false) }) (v := (.pointer (some ⟨g11, 0, none⟩))) rfl (by kernel_rfl) (by kernel_rfl) (by kernel_rfl) (fun _ _ _ h => h) (yields_of rfl (fun w => by go_simp)) hS ?_
            try simp only [Act.put, List.setIfInBounds_toArray, List.set_cons_zero, List.set_cons_succ]
            refine wpAnyH_take (i := 4) (oi := { dst := some 42, op := Op.load 3 (Operand.tmp 41), type := 3, pos := "bid.go:40", after := #[{ on := 3, ground := Ground.data }, { on := 2, ground := Ground.guard }], guard := some (2, false) }) (v := (.int .i64 (x : Int))) rfl (by kernel_rfl) (by kernel_rfl) (by kernel_rfl) (fun _ _ _ h => h) (.inl ⟨rfl, fun w h => by have e := CW.out w h; go_simp⟩) hS ?_
            try simp only [Act.put, List.setIfInBounds_toArray, List.set_cons_zero, List.set_cons_succ]
            refine wpAnyH_take (i := 5) (oi := { dst := some 43, op := Op.move (Operand.tmp 0), type := 43, pos := "bid.go:40", after := #[{ on := 2, ground := Ground.guard }], guard := some (2, false) }) (v := (.slice (some ⟨gv, ov, none⟩) n0 c0)) rfl (by kernel_rfl) (by kernel_rfl) (by kernel_rfl) (fun _ _ _ h => h) (yields_of rfl (fun w => by go_simp)) hS ?_
            try simp only [Act.put, List.setIfInBounds_toArray, List.set_cons_zero, List.set_cons_succ]
            refine wpAnyH_take (i := 6) (oi := { dst := some 44, op := Op.call { callee := Callee.builtin Builtin.len, args := #[Operand.tmp 43], argTypes := #[43] }, type := 3, pos := "bid.go:40", after := #[{ on := 5, ground := Ground.data }, { on := 2, ground := Ground.guard }], guard := some (2, false) }) (v := (.int .i64 (n0 : Int))) rfl (by kernel_rfl) (by kernel_rfl) (by kernel_rfl) (fun _ _ _ h => h) (yields_of rfl (fun w => by go_simp)) hS ?_
            try simp only [Act.put, List.setIfInBounds_toArray, List.set_cons_zero, List.set_cons_succ]
            refine wpAnyH_take (i := 7) (oi := { dst := some 45, op := Op.binOp BinOp.geq 3 (Operand.tmp 42) (Operand.tmp 44) 3, type := 4, pos := "bid.go:40", after := #[{ on := 4, ground := Ground.data }, { on := 6, ground := Ground.data }, { on := 2, ground := Ground.guard }], guard := some (2, false) }) (v := (.bool false)) rfl (by kernel_rfl) (by kernel_rfl) (by kernel_rfl) (fun _ _ _ h => h) (yields_of rfl (fun w => by go_simp)) hS ?_
            try simp only [Act.put, List.setIfInBounds_toArray, List.set_cons_zero, List.set_cons_succ]
            refine wpAnyH_take (i := 8) (oi := { dst := some 46, op := Op.pick (Operand.tmp 40) (Operand.const (Value.bool true)) (Operand.tmp 45), type := 4, pos := "bid.go:40", after := #[{ on := 2, ground := Ground.data }, { on := 7, ground := Ground.data }], guard := none }) (v := (.bool false)) rfl (by kernel_rfl) (by kernel_rfl) (by kernel_rfl) (fun _ _ _ h => h) (yields_of rfl (fun w => by go_simp)) hS ?_
            try simp only [Act.put, List.setIfInBounds_toArray, List.set_cons_zero, List.set_cons_succ]
            refine wpAnyH_take (i := 9) (oi := { dst := some 47, op := Op.move (Operand.tmp 46), type := 4, pos := "bid.go:40", after := #[{ on := 8, ground := Ground.data }, { on := 2, ground := Ground.chain }], guard := none }) (v := (.bool false)) rfl (by kernel_rfl) (by kernel_rfl) (by kernel_rfl) (fun _ _ _ h => h) (yields_of rfl (fun w => by go_simp)) hS ?_
            try simp only [Act.put, List.setIfInBounds_toArray, List.set_cons_zero, List.set_cons_succ]
            refine wpAnyH_take (i := 10) (oi := { dst := some 48, op := Op.move (Operand.tmp 0), type := 43, pos := "bid.go:40", after := #[{ on := 9, ground := Ground.guard }], guard := some (9, false) }) (v := (.slice (some ⟨gv, ov, none⟩) n0 c0)) rfl (by kernel_rfl) (by kernel_rfl) (by kernel_rfl) (fun _ _ _ h => h) (yields_of rfl (fun w => by go_simp)) hS ?_
            try simp only [Act.put, List.setIfInBounds_toArray, List.set_cons_zero, List.set_cons_succ]
            refine wpAnyH_take (i := 11) (oi := { dst := some 49, op := Op.fieldAddr 62 (Operand.tmp 11) 0, type := 0, pos := "bid.go:40", after := #[{ on := 9, ground := Ground.guard }], guard := some (9, false) }) (v := (.pointer (some ⟨g11, 0, none⟩))) rfl (by kernel_rfl) (by kernel_rfl) (by kernel_rfl) (fun _ _ _ h => h) (yields_of rfl (fun w => by go_simp)) hS ?_
            try simp only [Act.put, List.setIfInBounds_toArray, List.set_cons_zero, List.set_cons_succ]
            refine wpAnyH_take (i := 12) (oi := { dst := some 50, op := Op.load 3 (Operand.tmp 49), type := 3, pos := "bid.go:40", after := #[{ on := 11, ground := Ground.data }, { on := 9, ground := Ground.guard }], guard := some (9, false) }) (v := (.int .i64 (x : Int))) rfl (by kernel_rfl) (by kernel_rfl) (by kernel_rfl) (fun _ _ _ h => h) (.inl ⟨rfl, fun w h => by have e := CW.out w h; go_simp⟩) hS ?_
            try simp only [Act.put, List.setIfInBounds_toArray, List.set_cons_zero, List.set_cons_succ]
            refine wpAnyH_take (i := 13) (oi := { dst := some 51, op := Op.indexAddr 43 (Operand.tmp 48) (Operand.tmp 50), type := 0, pos := "bid.go:40", after := #[{ on := 10, ground := Ground.data }, { on := 12, ground := Ground.data }, { on := 9, ground := Ground.guard }], guard := some (9, false) }) (v := (.pointer (some ⟨gv, ov + x * 32, none⟩))) rfl (by kernel_rfl) (by kernel_rfl) (by kernel_rfl) (fun _ _ _ h => h) (yields_of rfl (fun w => by go_simp)) hS ?_
            try simp only [Act.put, List.setIfInBounds_toArray, List.set_cons_zero, List.set_cons_succ]
            refine wpAnyH_take (i := 14) (oi := { dst := some 52, op := Op.load 23 (Operand.tmp 51), type := 23, pos := "bid.go:40", after := #[{ on := 13, ground := Ground.data }, { on := 9, ground := Ground.guard }], guard := some (9, false) }) (v := (.agg (cellsOf .u8 dv))) rfl (by kernel_rfl) (by kernel_rfl) (by kernel_rfl) (fun _ _ _ h => h) (yields_load digT rfl (.tmp 51) rfl rfl HDL.out (fun w h => CV.out w h)) hS ?_
            try simp only [Act.put, List.setIfInBounds_toArray, List.set_cons_zero, List.set_cons_succ]
            refine wpAnyH_take (i := 15) (oi := { dst := some 53, op := Op.load 23 (Operand.tmp 12), type := 23, pos := "bid.go:40", after := #[{ on := 9, ground := Ground.guard }], guard := some (9, false) }) (v := (.agg (cellsOf .u8 (up (vowB b))))) rfl (by kernel_rfl) (by kernel_rfl) (by kernel_rfl) (fun _ _ _ h => h) (yields_load digT rfl (.tmp 12) rfl rfl (sum_len_u _) (fun w h => CY.out w h)) hS ?_
            try simp only [Act.put, List.setIfInBounds_toArray, List.set_cons_zero, List.set_cons_succ]
            refine wpAnyH_take (i := 16) (oi := { dst := some 54, op := Op.binOp BinOp.neq 23 (Operand.tmp 52) (Operand.tmp 53) 23, type := 4, pos := "bid.go:40", after := #[{ on := 14, ground := Ground.data }, { on := 15, ground := Ground.data }, { on := 9, ground := Ground.guard }], guard := some (9, false) }) (v := (.bool false)) rfl (by kernel_rfl) (by kernel_rfl) (by kernel_rfl) (fun _ _ _ h => h) (yields_neqD digT noGuardD rfl (.tmp 52) (.tmp 53) 23 rfl rfl rfl HDL.out (sum_len_u _) HNE.out) hS ?_
            try simp only [Act.put, List.setIfInBounds_toArray, List.set_cons_zero, List.set_cons_succ]
            refine wpAnyH_take (i := 17) (oi := { dst := some 55, op := Op.pick (Operand.tmp 47) (Operand.const (Value.bool true)) (Operand.tmp 54), type := 4, pos := "bid.go:40", after := #[{ on := 9, ground := Ground.data }, { on := 16, ground := Ground.data }], guard := none }) (v := (.bool false)) rfl (by kernel_rfl) (by kernel_rfl) (by kernel_rfl) (fun _ _ _ h => h) (yields_of rfl (fun w => by go_simp)) hS ?_
            refine wpAnyH_done (by kernel_rfl) ?_ _
            have E8 := hid (unhid E6).drew; have B8 := hid (unhid B6).drew; have O8 := hid (((unhid HO).below (unhid E6) (Nat.le_refl _)).drew)
            have EW8 := hid (unhid EW7).drew
            have h118 : g11 < w7.drew.heap.size := h116
            have hsk8 : w.heap.size ≤ w7.drew.heap.size := (unhid EW8).size
            clear CV CW CY C6 B6 E6 EW7 HO
            generalize w7.drew = w8 at E8 B8 O8 EW8 h118 hsk8 ⊢
            by_cases hfo : ∃ c ∈ cs, c.who = b.who
            · have CF := hid (contf_any cs AC nc cC w8.heap.size g11 b.who w8 (Row.of_own (unhid O8)) HCS.out HCL.out (by omega) (Nat.le_refl _) (by rw [Blk.cell_of (unhid B8)]; rfl) h118 true ⟨fun _ => hfo, fun _ => rfl⟩)
              have hst : cnts Vs (bs.take (i + 1)) = cs := by rw [cnts_succ HBI.out, ← HC.out]; unfold cstep; rw [if_neg (fun h => h.2 hfo)]
              have HST := hid hst.symm
              clear hfo hst
              go_wp2_with fail
              refine (unhid CF).mono ?_
              rintro e w9 ⟨rfl, hb9⟩
              have O9 := hid ((unhid O8).below hb9 (Nat.le_refl _))
              have EW9 := hid ((unhid EW8).trans (hb9.mono hsk8))
              clear hb9 CF O8 B8 E8 EW8
              go_wp2_with fail
              go_roundw
              case rel => exact ⟨i + 1, nc, AC, cC, cs, by omega, by go_num, rfl, by omega, HST, HCL, HCS, O9, EW9⟩
              case measure => simp [intOf]; omega
            · have CF := hid (contf_any cs AC nc cC w8.heap.size g11 b.who w8 (Row.of_own (unhid O8)) HCS.out HCL.out (by omega) (Nat.le_refl _) (by rw [Blk.cell_of (unhid B8)]; rfl) h118 false ⟨fun h => absurd h (by decide), fun h => absurd h hfo⟩)
              have hst : cnts Vs (bs.take (i + 1)) = cs ++ [b] := by rw [cnts_succ HBI.out, ← HC.out]; unfold cstep; rw [if_pos ⟨HOK.out, hfo⟩]
              have HST := hid hst.symm
              clear hfo hst
              go_wp2_with fail
              refine (unhid CF).mono ?_
              rintro e w9 ⟨rfl, hb9⟩
              have B9 := hid ((unhid B8).below hb9 h118)
              have O9 := hid ((unhid O8).below hb9 (Nat.le_refl _))
              have EW9 := hid ((unhid EW8).trans (hb9.mono hsk8))
              have hsk9 := (unhid EW9).size
              clear hb9 CF O8 B8 E8 EW8
              go_wp2_with (with_reducible refine halt_op (some 61) (.load _ _) (fun K hK => ?_))
              refine go_on hK ?_; clear hK
              refine load_mid bidT rfl (.tmp 11) rfl rfl (Blk.rng (unhid B9)) HLb.out ?_
              go_wp2_with (with_reducible refine halt_op (some 62) (.buildSlice _ _ _) (fun K hK => ?_))
              refine go_on hK ?_; clear hK
              refine build1 bidsE (by decide) rfl (.tmp 61) rfl (cs := bc b) rfl HLb.out ?_
              intro bl
              go_wp2_with (at_builtin; refine halt_at (fun K hK => ?_))
              refine go_on hK ?_; clear hK
              refine app_step bidsE rfl (.tmp 60) (.tmp 62) rfl rfl ((unhid O9).alloc _) rfl (Row.lit_full w9 _ _ 1 34 w9.heap.size (bc b) rfl (by simp) (by rw [HLb.out])) (bc_one b) (by simp [maxLen]; omega) (by omega) (by simp; omega) ?_
              intro A2 c2 w10 o10 g10 l10
              rw [show (cs.map bc).flatten ++ bc b = ((cs ++ [b]).map bc).flatten by simp] at o10
              have O10 := hid o10
              have E10 := hid (((unhid EW9).alloc hsk9 _).grown g10 (by simp; omega) (fun q hq => ((unhid O9).from_ q hq).1))
              have HCL2 : Hid ((cs ++ [b]).length = nc + 1) := hid (by rw [List.length_append, HCL.out]; rfl)
              have HCS2 : Hid (∀ c ∈ cs ++ [b], c.salt.length = 32) := hid fun c hc => by
                rcases List.mem_append.1 hc with hc | hc
                · exact HCS.out c hc
                · rw [List.mem_singleton] at hc; rw [hc]; exact HBK.out.1
              clear o10 g10 l10 bl O9 B9 EW9
              go_wp2_with fail
              go_roundw
              case rel => exact ⟨i + 1, nc + 1, A2, c2, cs ++ [b], by omega, by go_num, rfl, by omega, HST, HCL2, HCS2, O10, E10⟩
              case measure => simp [intOf]; omega
          · have HNE : Hid (true = decide (dv ≠ up (vowB b))) := hid (by simp [hne])
            have hst : cnts Vs (bs.take (i + 1)) = cs := by rw [cnts_succ HBI.out, ← HC.out]; unfold cstep; rw [if_neg (fun h => hne (by rw [← HGD.out]; exact h.1.2.2))]
            have HST := hid hst.symm
            clear hne hst
            refine wp_region_held_drew (S := fun w' => Below w7.heap.size w7 w') (by kernel_rfl) ((Below.refl _ _).drew) (fun hS => ?_)
            refine wpAnyH_take (i := 0) (oi := { dst := some 38, op := Op.move (Operand.tmp 13), type := 34, pos := "bid.go:40", after := #[], guard := none }) (v := .nilIface) rfl (by kernel_rfl) (by kernel_rfl) (by kernel_rfl) (fun _ _ _ h => h) (yields_of rfl (fun w => by go_simp)) hS ?_
            try simp only [Act.put, List.setIfInBounds_toArray, List.set_cons_zero, List.set_cons_succ]
            refine wpAnyH_take (i := 1) (oi := { dst := some 39, op := Op.binOp BinOp.neq 34 (Operand.tmp 38) (Operand.const Value.nilIface) 34, type := 4, pos := "bid.go:40", after := #[{ on := 0, ground := Ground.data }], guard := none }) (v := (.bool false)) rfl (by kernel_rfl) (by kernel_rfl) (by kernel_rfl) (fun _ _ _ h => h) (yields_of rfl (fun w => by go_simp)) hS ?_
            try simp only [Act.put, List.setIfInBounds_toArray, List.set_cons_zero, List.set_cons_succ]
            refine wpAnyH_take (i := 2) (oi := { dst := some 40, op := Op.move (Operand.tmp 39), type := 4, pos := "bid.go:40", after := #[{ on := 1, ground := Ground.data }], guard := none }) (v := (.bool false)) rfl (by kernel_rfl) (by kernel_rfl) (by kernel_rfl) (fun _ _ _ h => h) (yields_of rfl (fun w => by go_simp)) hS ?_
            try simp only [Act.put, List.setIfInBounds_toArray, List.set_cons_zero, List.set_cons_succ]
            refine wpAnyH_take (i := 3) (oi := { dst := some 41, op := Op.fieldAddr 62 (Operand.tmp 11) 0, type := 0, pos := "bid.go:40", after := #[{ on := 2, ground := Ground.guard }], guard := some (2, false) }) (v := (.pointer (some ⟨g11, 0, none⟩))) rfl (by kernel_rfl) (by kernel_rfl) (by kernel_rfl) (fun _ _ _ h => h) (yields_of rfl (fun w => by go_simp)) hS ?_
            try simp only [Act.put, List.setIfInBounds_toArray, List.set_cons_zero, List.set_cons_succ]
            refine wpAnyH_take (i := 4) (oi := { dst := some 42, op := Op.load 3 (Operand.tmp 41), type := 3, pos := "bid.go:40", after := #[{ on := 3, ground := Ground.data }, { on := 2, ground := Ground.guard }], guard := some (2, false) }) (v := (.int .i64 (x : Int))) rfl (by kernel_rfl) (by kernel_rfl) (by kernel_rfl) (fun _ _ _ h => h) (.inl ⟨rfl, fun w h => by have e := CW.out w h; go_simp⟩) hS ?_
            try simp only [Act.put, List.setIfInBounds_toArray, List.set_cons_zero, List.set_cons_succ]
            refine wpAnyH_take (i := 5) (oi := { dst := some 43, op := Op.move (Operand.tmp 0), type := 43, pos := "bid.go:40", after := #[{ on := 2, ground := Ground.guard }], guard := some (2, false) }) (v := (.slice (some ⟨gv, ov, none⟩) n0 c0)) rfl (by kernel_rfl) (by kernel_rfl) (by kernel_rfl) (fun _ _ _ h => h) (yields_of rfl (fun w => by go_simp)) hS ?_
            try simp only [Act.put, List.setIfInBounds_toArray, List.set_cons_zero, List.set_cons_succ]
            refine wpAnyH_take (i := 6) (oi := { dst := some 44, op := Op.call { callee := Callee.builtin Builtin.len, args := #[Operand.tmp 43], argTypes := #[43] }, type := 3, pos := "bid.go:40", after := #[{ on := 5, ground := Ground.data }, { on := 2, ground := Ground.guard }], guard := some (2, false) }) (v := (.int .i64 (n0 : Int))) rfl (by kernel_rfl) (by kernel_rfl) (by kernel_rfl) (fun _ _ _ h => h) (yields_of rfl (fun w => by go_simp)) hS ?_
            try simp only [Act.put, List.setIfInBounds_toArray, List.set_cons_zero, List.set_cons_succ]
            refine wpAnyH_take (i := 7) (oi := { dst := some 45, op := Op.binOp BinOp.geq 3 (Operand.tmp 42) (Operand.tmp 44) 3, type := 4, pos := "bid.go:40", after := #[{ on := 4, ground := Ground.data }, { on := 6, ground := Ground.data }, { on := 2, ground := Ground.guard }], guard := some (2, false) }) (v := (.bool false)) rfl (by kernel_rfl) (by kernel_rfl) (by kernel_rfl) (fun _ _ _ h => h) (yields_of rfl (fun w => by go_simp)) hS ?_
            try simp only [Act.put, List.setIfInBounds_toArray, List.set_cons_zero, List.set_cons_succ]
            refine wpAnyH_take (i := 8) (oi := { dst := some 46, op := Op.pick (Operand.tmp 40) (Operand.const (Value.bool true)) (Operand.tmp 45), type := 4, pos := "bid.go:40", after := #[{ on := 2, ground := Ground.data }, { on := 7, ground := Ground.data }], guard := none }) (v := (.bool false)) rfl (by kernel_rfl) (by kernel_rfl) (by kernel_rfl) (fun _ _ _ h => h) (yields_of rfl (fun w => by go_simp)) hS ?_
            try simp only [Act.put, List.setIfInBounds_toArray, List.set_cons_zero, List.set_cons_succ]
            refine wpAnyH_take (i := 9) (oi := { dst := some 47, op := Op.move (Operand.tmp 46), type := 4, pos := "bid.go:40", after := #[{ on := 8, ground := Ground.data }, { on := 2, ground := Ground.chain }], guard := none }) (v := (.bool false)) rfl (by kernel_rfl) (by kernel_rfl) (by kernel_rfl) (fun _ _ _ h => h) (yields_of rfl (fun w => by go_simp)) hS ?_
            try simp only [Act.put, List.setIfInBounds_toArray, List.set_cons_zero, List.set_cons_succ]
            refine wpAnyH_take (i := 10) (oi := { dst := some 48, op := Op.move (Operand.tmp 0), type := 43, pos := "bid.go:40", after := #[{ on := 9, ground := Ground.guard }], guard := some (9, false) }) (v := (.slice (some ⟨gv, ov, none⟩) n0 c0)) rfl (by kernel_rfl) (by kernel_rfl) (by kernel_rfl) (fun _ _ _ h => h) (yields_of rfl (fun w => by go_simp)) hS ?_
            try simp only [Act.put, List.setIfInBounds_toArray, List.set_cons_zero, List.set_cons_succ]
            refine wpAnyH_take (i := 11) (oi := { dst := some 49, op := Op.fieldAddr 62 (Operand.tmp 11) 0, type := 0, pos := "bid.go:40", after := #[{ on := 9, ground := Ground.guard }], guard := some (9, false) }) (v := (.pointer (some ⟨g11, 0, none⟩))) rfl (by kernel_rfl) (by kernel_rfl) (by kernel_rfl) (fun _ _ _ h => h) (yields_of rfl (fun w => by go_simp)) hS ?_
            try simp only [Act.put, List.setIfInBounds_toArray, List.set_cons_zero, List.set_cons_succ]
            refine wpAnyH_take (i := 12) (oi := { dst := some 50, op := Op.load 3 (Operand.tmp 49), type := 3, pos := "bid.go:40", after := #[{ on := 11, ground := Ground.data }, { on := 9, ground := Ground.guard }], guard := some (9, false) }) (v := (.int .i64 (x : Int))) rfl (by kernel_rfl) (by kernel_rfl) (by kernel_rfl) (fun _ _ _ h => h) (.inl ⟨rfl, fun w h => by have e := CW.out w h; go_simp⟩) hS ?_
            try simp only [Act.put, List.setIfInBounds_toArray, List.set_cons_zero, List.set_cons_succ]
            refine wpAnyH_take (i := 13) (oi := { dst := some 51, op := Op.indexAddr 43 (Operand.tmp 48) (Operand.tmp 50), type := 0, pos := "bid.go:40", after := #[{ on := 10, ground := Ground.data }, { on := 12, ground := Ground.data }, { on := 9, ground := Ground.guard }], guard := some (9, false) }) (v := (.pointer (some ⟨gv, ov + x * 32, none⟩))) rfl (by kernel_rfl) (by kernel_rfl) (by kernel_rfl) (fun _ _ _ h => h) (yields_of rfl (fun w => by go_simp)) hS ?_
            try simp only [Act.put, List.setIfInBounds_toArray, List.set_cons_zero, List.set_cons_succ]
            refine wpAnyH_take (i := 14) (oi := { dst := some 52, op := Op.load 23 (Operand.tmp 51), type := 23, pos := "bid.go:40", after := #[{ on := 13, ground := Ground.data }, { on := 9, ground := Ground.guard }], guard := some (9, false) }) (v := (.agg (cellsOf .u8 dv))) rfl (by kernel_rfl) (by kernel_rfl) (by kernel_rfl) (fun _ _ _ h => h) (yields_load digT rfl (.tmp 51) rfl rfl HDL.out (fun w h => CV.out w h)) hS ?_
            try simp only [Act.put, List.setIfInBounds_toArray, List.set_cons_zero, List.set_cons_succ]
            refine wpAnyH_take (i := 15) (oi := { dst := some 53, op := Op.load 23 (Operand.tmp 12), type := 23, pos := "bid.go:40", after := #[{ on := 9, ground := Ground.guard }], guard := some (9, false) }) (v := (.agg (cellsOf .u8 (up (vowB b))))) rfl (by kernel_rfl) (by kernel_rfl) (by kernel_rfl) (fun _ _ _ h => h) (yields_load digT rfl (.tmp 12) rfl rfl (sum_len_u _) (fun w h => CY.out w h)) hS ?_
            try simp only [Act.put, List.setIfInBounds_toArray, List.set_cons_zero, List.set_cons_succ]
            refine wpAnyH_take (i := 16) (oi := { dst := some 54, op := Op.binOp BinOp.neq 23 (Operand.tmp 52) (Operand.tmp 53) 23, type := 4, pos := "bid.go:40", after := #[{ on := 14, ground := Ground.data }, { on := 15, ground := Ground.data }, { on := 9, ground := Ground.guard }], guard := some (9, false) }) (v := (.bool true)) rfl (by kernel_rfl) (by kernel_rfl) (by kernel_rfl) (fun _ _ _ h => h) (yields_neqD digT noGuardD rfl (.tmp 52) (.tmp 53) 23 rfl rfl rfl HDL.out (sum_len_u _) HNE.out) hS ?_
            try simp only [Act.put, List.setIfInBounds_toArray, List.set_cons_zero, List.set_cons_succ]
            refine wpAnyH_take (i := 17) (oi := { dst := some 55, op := Op.pick (Operand.tmp 47) (Operand.const (Value.bool true)) (Operand.tmp 54), type := 4, pos := "bid.go:40", after := #[{ on := 9, ground := Ground.data }, { on := 16, ground := Ground.data }], guard := none }) (v := (.bool true)) rfl (by kernel_rfl) (by kernel_rfl) (by kernel_rfl) (fun _ _ _ h => h) (yields_of rfl (fun w => by go_simp)) hS ?_
            refine wpAnyH_done (by kernel_rfl) ?_ _
            have O8 := hid (((unhid HO).below (unhid E6) (Nat.le_refl _)).drew)
            have EW8 := hid (unhid EW7).drew
            clear CV CW CY C6 B6 E6 EW7 HO
            go_wp2_with fail
            go_roundw
            case rel => exact ⟨i + 1, nc, AC, cC, cs, by omega, by go_num, rfl, by omega, HST, HCL, HCS, O8, EW8⟩
            case measure => simp [intOf]; omega
        · have x2 : (n0 : Int) ≤ (x : Int) := by omega
          have hst : cnts Vs (bs.take (i + 1)) = cs := by rw [cnts_succ HBI.out, ← HC.out]; unfold cstep; rw [if_neg (fun h => by have := h.1.2.1; rw [HX.out, HVL.out] at this; omega)]
          have HST := hid hst.symm
          clear hst
          refine wp_region_held_drew (S := fun w' => Below w7.heap.size w7 w') (by kernel_rfl) ((Below.refl _ _).drew) (fun hS => ?_)
          refine wpAnyH_take (i := 0) (oi := { dst := some 38, op := Op.move (Operand.tmp 13), type := 34, pos := "bid.go:40", after := #[], guard := none }) (v := .nilIface) rfl (by kernel_rfl) (by kernel_rfl) (by kernel_rfl) (fun _ _ _ h => h) (yields_of rfl (fun w => by go_simp)) hS ?_
          try simp only [Act.put, List.setIfInBounds_toArray, List.set_cons_zero, List.set_cons_succ]
          refine wpAnyH_take (i := 1) (oi := { dst := some 39, op := Op.binOp BinOp.neq 34 (Operand.tmp 38) (Operand.const Value.nilIface) 34, type := 4, pos := "bid.go:40", after := #[{ on := 0, ground := Ground.data }], guard := none }) (v := (.bool false)) rfl (by kernel_rfl) (by kernel_rfl) (by kernel_rfl) (fun _ _ _ h => h) (yields_of rfl (fun w => by go_simp)) hS ?_
          try simp only [Act.put, List.setIfInBounds_toArray, List.set_cons_zero, List.set_cons_succ]
          refine wpAnyH_take (i := 2) (oi := { dst := some 40, op := Op.move (Operand.tmp 39), type := 4, pos := "bid.go:40", after := #[{ on := 1, ground := Ground.data }], guard := none }) (v := (.bool false)) rfl (by kernel_rfl) (by kernel_rfl) (by kernel_rfl) (fun _ _ _ h => h) (yields_of rfl (fun w => by go_simp)) hS ?_
          try simp only [Act.put, List.setIfInBounds_toArray, List.set_cons_zero, List.set_cons_succ]
          refine wpAnyH_take (i := 3) (oi := { dst := some 41, op := Op.fieldAddr 62 (Operand.tmp 11) 0, type := 0, pos := "bid.go:40", after := #[{ on := 2, ground := Ground.guard }], guard := some (2, false) }) (v := (.pointer (some ⟨g11, 0, none⟩))) rfl (by kernel_rfl) (by kernel_rfl) (by kernel_rfl) (fun _ _ _ h => h) (yields_of rfl (fun w => by go_simp)) hS ?_
          try simp only [Act.put, List.setIfInBounds_toArray, List.set_cons_zero, List.set_cons_succ]
          refine wpAnyH_take (i := 4) (oi := { dst := some 42, op := Op.load 3 (Operand.tmp 41), type := 3, pos := "bid.go:40", after := #[{ on := 3, ground := Ground.data }, { on := 2, ground := Ground.guard }], guard := some (2, false) }) (v := (.int .i64 (x : Int))) rfl (by kernel_rfl) (by kernel_rfl) (by kernel_rfl) (fun _ _ _ h => h) (.inl ⟨rfl, fun w h => by have e := CW.out w h; go_simp⟩) hS ?_
          try simp only [Act.put, List.setIfInBounds_toArray, List.set_cons_zero, List.set_cons_succ]
          refine wpAnyH_take (i := 5) (oi := { dst := some 43, op := Op.move (Operand.tmp 0), type := 43, pos := "bid.go:40", after := #[{ on := 2, ground := Ground.guard }], guard := some (2, false) }) (v := (.slice A0 n0 c0)) rfl (by kernel_rfl) (by kernel_rfl) (by kernel_rfl) (fun _ _ _ h => h) (yields_of rfl (fun w => by go_simp)) hS ?_
          try simp only [Act.put, List.setIfInBounds_toArray, List.set_cons_zero, List.set_cons_succ]
          refine wpAnyH_take (i := 6) (oi := { dst := some 44, op := Op.call { callee := Callee.builtin Builtin.len, args := #[Operand.tmp 43], argTypes := #[43] }, type := 3, pos := "bid.go:40", after := #[{ on := 5, ground := Ground.data }, { on := 2, ground := Ground.guard }], guard := some (2, false) }) (v := (.int .i64 (n0 : Int))) rfl (by kernel_rfl) (by kernel_rfl) (by kernel_rfl) (fun _ _ _ h => h) (yields_of rfl (fun w => by go_simp)) hS ?_
          try simp only [Act.put, List.setIfInBounds_toArray, List.set_cons_zero, List.set_cons_succ]
          refine wpAnyH_take (i := 7) (oi := { dst := some 45, op := Op.binOp BinOp.geq 3 (Operand.tmp 42) (Operand.tmp 44) 3, type := 4, pos := "bid.go:40", after := #[{ on := 4, ground := Ground.data }, { on := 6, ground := Ground.data }, { on := 2, ground := Ground.guard }], guard := some (2, false) }) (v := (.bool true)) rfl (by kernel_rfl) (by kernel_rfl) (by kernel_rfl) (fun _ _ _ h => h) (yields_of rfl (fun w => by go_simp)) hS ?_
          try simp only [Act.put, List.setIfInBounds_toArray, List.set_cons_zero, List.set_cons_succ]
          refine wpAnyH_take (i := 8) (oi := { dst := some 46, op := Op.pick (Operand.tmp 40) (Operand.const (Value.bool true)) (Operand.tmp 45), type := 4, pos := "bid.go:40", after := #[{ on := 2, ground := Ground.data }, { on := 7, ground := Ground.data }], guard := none }) (v := (.bool true)) rfl (by kernel_rfl) (by kernel_rfl) (by kernel_rfl) (fun _ _ _ h => h) (yields_of rfl (fun w => by go_simp)) hS ?_
          try simp only [Act.put, List.setIfInBounds_toArray, List.set_cons_zero, List.set_cons_succ]
          refine wpAnyH_take (i := 9) (oi := { dst := some 47, op := Op.move (Operand.tmp 46), type := 4, pos := "bid.go:40", after := #[{ on := 8, ground := Ground.data }, { on := 2, ground := Ground.chain }], guard := none }) (v := (.bool true)) rfl (by kernel_rfl) (by kernel_rfl) (by kernel_rfl) (fun _ _ _ h => h) (yields_of rfl (fun w => by go_simp)) hS ?_
          try simp only [Act.put, List.setIfInBounds_toArray, List.set_cons_zero, List.set_cons_succ]
          refine wpAnyH_take (i := 10) (oi := { dst := some 48, op := Op.move (Operand.tmp 0), type := 43, pos := "bid.go:40", after := #[{ on := 9, ground := Ground.guard }], guard := some (9, false) }) (v := undef) rfl (by kernel_rfl) (by kernel_rfl) (by kernel_rfl) (fun _ _ _ h => h) (.inr ⟨rfl, rfl⟩) hS ?_
          try simp only [Act.put, List.setIfInBounds_toArray, List.set_cons_zero, List.set_cons_succ]
          refine wpAnyH_take (i := 11) (oi := { dst := some 49, op := Op.fieldAddr 62 (Operand.tmp 11) 0, type := 0, pos := "bid.go:40", after := #[{ on := 9, ground := Ground.guard }], guard := some (9, false) }) (v := undef) rfl (by kernel_rfl) (by kernel_rfl) (by kernel_rfl) (fun _ _ _ h => h) (.inr ⟨rfl, rfl⟩) hS ?_
          try simp only [Act.put, List.setIfInBounds_toArray, List.set_cons_zero, List.set_cons_succ]
          refine wpAnyH_take (i := 12) (oi := { dst := some 50, op := Op.load 3 (Operand.tmp 49), type := 3, pos := "bid.go:40", after := #[{ on := 11, ground := Ground.data }, { on := 9, ground := Ground.guard }], guard := some (9, false) }) (v := undef) rfl (by kernel_rfl) (by kernel_rfl) (by kernel_rfl) (fun _ _ _ h => h) (.inr ⟨rfl, rfl⟩) hS ?_
          try simp only [Act.put, List.setIfInBounds_toArray, List.set_cons_zero, List.set_cons_succ]
          refine wpAnyH_take (i := 13) (oi := { dst := some 51, op := Op.indexAddr 43 (Operand.tmp 48) (Operand.tmp 50), type := 0, pos := "bid.go:40", after := #[{ on := 10, ground := Ground.data }, { on := 12, ground := Ground.data }, { on := 9, ground := Ground.guard }], guard := some (9, false) }) (v := undef) rfl (by kernel_rfl) (by kernel_rfl) (by kernel_rfl) (fun _ _ _ h => h) (.inr ⟨rfl, rfl⟩) hS ?_
          try simp only [Act.put, List.setIfInBounds_toArray, List.set_cons_zero, List.set_cons_succ]
          refine wpAnyH_take (i := 14) (oi := { dst := some 52, op := Op.load 23 (Operand.tmp 51), type := 23, pos := "bid.go:40", after := #[{ on := 13, ground := Ground.data }, { on := 9, ground := Ground.guard }], guard := some (9, false) }) (v := undef) rfl (by kernel_rfl) (by kernel_rfl) (by kernel_rfl) (fun _ _ _ h => h) (.inr ⟨rfl, rfl⟩) hS ?_
          try simp only [Act.put, List.setIfInBounds_toArray, List.set_cons_zero, List.set_cons_succ]
          refine wpAnyH_take (i := 15) (oi := { dst := some 53, op := Op.load 23 (Operand.tmp 12), type := 23, pos := "bid.go:40", after := #[{ on := 9, ground := Ground.guard }], guard := some (9, false) }) (v := undef) rfl (by kernel_rfl) (by kernel_rfl) (by kernel_rfl) (fun _ _ _ h => h) (.inr ⟨rfl, rfl⟩) hS ?_
          try simp only [Act.put, List.setIfInBounds_toArray, List.set_cons_zero, List.set_cons_succ]
          refine wpAnyH_take (i := 16) (oi := { dst := some 54, op := Op.binOp BinOp.neq 23 (Operand.tmp 52) (Operand.tmp 53) 23, type := 4, pos := "bid.go:40", after := #[{ on := 14, ground := Ground.data }, { on := 15, ground := Ground.data }, { on := 9, ground := Ground.guard }], guard := some (9, false) }) (v := undef) rfl (by kernel_rfl) (by kernel_rfl) (by kernel_rfl) (fun _ _ _ h => h) (.inr ⟨rfl, rfl⟩) hS ?_
          try simp only [Act.put, List.setIfInBounds_toArray, List.set_cons_zero, List.set_cons_succ]
          refine wpAnyH_take (i := 17) (oi := { dst := some 55, op := Op.pick (Operand.tmp 47) (Operand.const (Value.bool true)) (Operand.tmp 54), type := 4, pos := "bid.go:40", after := #[{ on := 9, ground := Ground.data }, { on := 16, ground := Ground.data }], guard := none }) (v := Value.bool true) rfl (by kernel_rfl) (by kernel_rfl) (by kernel_rfl) (fun _ _ _ h => h) (yields_of rfl (fun w => by go_simp)) hS ?_
          refine wpAnyH_done (by kernel_rfl) ?_ _
          have O8 := hid (((unhid HO).below (unhid E6) (Nat.le_refl _)).drew)
          have EW8 := hid (unhid EW7).drew
          clear CW CY C6 B6 E6 EW7 HO
          go_wp2_with fail
          go_roundw
          case rel => exact ⟨i + 1, nc, AC, cC, cs, by omega, by go_num, rfl, by omega, HST, HCL, HCS, O8, EW8⟩
          case measure => simp [intOf]; omega
      · have VN := hid (vow_no b w3 HBK.out hvk)
        unfold bidV at VN
        have hst : cnts Vs (bs.take (i + 1)) = cs := by rw [cnts_succ HBI.out, ← HC.out]; unfold cstep; rw [if_neg (fun h => hvk h.1.1)]
        have HST := hid hst.symm
        clear hvk hst
        go_wp2_with fail
        refine (unhid VN).mono ?_
        rintro e w4 ⟨rfl, hb4⟩
        have E4 := hid ((unhid E3).trans (hb4.mono hsk))
        have hz4 := hb4.size
        clear hb4 VN B3 E3
        go_wp2_with (with_reducible refine halt_op (some 12) (.alloc _) (fun K hK => ?_))
        refine go_on hK ?_; clear hK
        refine alloc_arr digT rfl rfl ?_
        rintro g12 w5 hg12 s5 b5 e5
        go_wp2_with (with_reducible refine halt_op none (.store _ _ _) (fun K hK => ?_))
        refine go_on hK ?_; clear hK
        refine store_arr digT (l := List.replicate 32 0) rfl (.tmp 12) (.tmp 36) rfl rfl rfl (by simp) b5 (by simp [cellsOf]) ?_
        intro w6 b6 g6
        have hz6 := g6.size
        have E46 : Below g12 w4 w6 := e5.grown g6 (by omega) (fun q hq => by have e9 : g12 = q := Option.some.inj hq; omega)
        have E6 := hid ((unhid E4).trans (E46.mono (show wk.heap.size ≤ g12 by omega)))
        clear b5 e5 hg12 s5 b6 g6 hz6 E46 E4 hz4
        go_wp2_with fail
        obtain ⟨w7, hw7⟩ : ∃ w7 : World, w7 = w6 := ⟨_, rfl⟩
        rw [← hw7] at E6
        rw [← hw7]
        clear hw7
        have EW7 := hid ((unhid HB).trans ((unhid E6).mono hsw))
        refine wp_region_held_drew (S := fun w' => Below w7.heap.size w7 w') (by kernel_rfl) ((Below.refl _ _).drew) (fun hS => ?_)
        refine wpAnyH_take (i := 0) (oi := { dst := some 38, op := Op.move (Operand.tmp 13), type := 34, pos := "bid.go:40", after := #[], guard := none }) (v := (.iface 38 (.int .i64 2))) rfl (by kernel_rfl) (by kernel_rfl) (by kernel_rfl) (fun _ _ _ h => h) (yields_of rfl (fun w => by go_simp)) hS ?_
        try simp only [Act.put, List.setIfInBounds_toArray, List.set_cons_zero, List.set_cons_succ]
        refine wpAnyH_take (i := 1) (oi := { dst := some 39, op := Op.binOp BinOp.neq 34 (Operand.tmp 38) (Operand.const Value.nilIface) 34, type := 4, pos := "bid.go:40", after := #[{ on := 0, ground := Ground.data }], guard := none }) (v := (.bool true)) rfl (by kernel_rfl) (by kernel_rfl) (by kernel_rfl) (fun _ _ _ h => h) (yields_of rfl (fun w => by go_simp)) hS ?_
        try simp only [Act.put, List.setIfInBounds_toArray, List.set_cons_zero, List.set_cons_succ]
        refine wpAnyH_take (i := 2) (oi := { dst := some 40, op := Op.move (Operand.tmp 39), type := 4, pos := "bid.go:40", after := #[{ on := 1, ground := Ground.data }], guard := none }) (v := (.bool true)) rfl (by kernel_rfl) (by kernel_rfl) (by kernel_rfl) (fun _ _ _ h => h) (yields_of rfl (fun w => by go_simp)) hS ?_
        try simp only [Act.put, List.setIfInBounds_toArray, List.set_cons_zero, List.set_cons_succ]
        refine wpAnyH_take (i := 3) (oi := { dst := some 41, op := Op.fieldAddr 62 (Operand.tmp 11) 0, type := 0, pos := "bid.go:40", after := #[{ on := 2, ground := Ground.guard }], guard := some (2, false) }) (v := undef) rfl (by kernel_rfl) (by kernel_rfl) (by kernel_rfl) (fun _ _ _ h => h) (.inr ⟨rfl, rfl⟩) hS ?_
        try simp only [Act.put, List.setIfInBounds_toArray, List.set_cons_zero, List.set_cons_succ]
        refine wpAnyH_take (i := 4) (oi := { dst := some 42, op := Op.load 3 (Operand.tmp 41), type := 3, pos := "bid.go:40", after := #[{ on := 3, ground := Ground.data }, { on := 2, ground := Ground.guard }], guard := some (2, false) }) (v := undef) rfl (by kernel_rfl) (by kernel_rfl) (by kernel_rfl) (fun _ _ _ h => h) (.inr ⟨rfl, rfl⟩) hS ?_
        try simp only [Act.put, List.setIfInBounds_toArray, List.set_cons_zero, List.set_cons_succ]
        refine wpAnyH_take (i := 5) (oi := { dst := some 43, op := Op.move (Operand.tmp 0), type := 43, pos := "bid.go:40", after := #[{ on := 2, ground := Ground.guard }], guard := some (2, false) }) (v := undef) rfl (by kernel_rfl) (by kernel_rfl) (by kernel_rfl) (fun _ _ _ h => h) (.inr ⟨rfl, rfl⟩) hS ?_
        try simp only [Act.put, List.setIfInBounds_toArray, List.set_cons_zero, List.set_cons_succ]
        refine wpAnyH_take (i := 6) (oi := { dst := some 44, op := Op.call { callee := Callee.builtin Builtin.len, args := #[Operand.tmp 43], argTypes := #[43] }, type := 3, pos := "bid.go:40", after := #[{ on := 5, ground := Ground.data }, { on := 2, ground := Ground.guard }], guard := some (2, false) }) (v := undef) rfl (by kernel_rfl) (by kernel_rfl) (by kernel_rfl) (fun _ _ _ h => h) (.inr ⟨rfl, rfl⟩) hS ?_
        try simp only [Act.put, List.setIfInBounds_toArray, List.set_cons_zero, List.set_cons_succ]
        refine wpAnyH_take (i := 7) (oi := { dst := some 45, op := Op.binOp BinOp.geq 3 (Operand.tmp 42) (Operand.tmp 44) 3, type := 4, pos := "bid.go:40", after := #[{ on := 4, ground := Ground.data }, { on := 6, ground := Ground.data }, { on := 2, ground := Ground.guard }], guard := some (2, false) }) (v := undef) rfl (by kernel_rfl) (by kernel_rfl) (by kernel_rfl) (fun _ _ _ h => h) (.inr ⟨rfl, rfl⟩) hS ?_
        try simp only [Act.put, List.setIfInBounds_toArray, List.set_cons_zero, List.set_cons_succ]
        refine wpAnyH_take (i := 8) (oi := { dst := some 46, op := Op.pick (Operand.tmp 40) (Operand.const (Value.bool true)) (Operand.tmp 45), type := 4, pos := "bid.go:40", after := #[{ on := 2, ground := Ground.data }, { on := 7, ground := Ground.data }], guard := none }) (v := Value.bool true) rfl (by kernel_rfl) (by kernel_rfl) (by kernel_rfl) (fun _ _ _ h => h) (yields_of rfl (fun w => by go_simp)) hS ?_
        try simp only [Act.put, List.setIfInBounds_toArray, List.set_cons_zero, List.set_cons_succ]
        refine wpAnyH_take (i := 9) (oi := { dst := some 47, op := Op.move (Operand.tmp 46), type := 4, pos := "bid.go:40", after := #[{ on := 8, ground := Ground.data }, { on := 2, ground := Ground.chain }], guard := none }) (v := Value.bool true) rfl (by kernel_rfl) (by kernel_rfl) (by kernel_rfl) (fun _ _ _ h => h) (yields_of rfl (fun w => by go_simp)) hS ?_
        try simp only [Act.put, List.setIfInBounds_toArray, List.set_cons_zero, List.set_cons_succ]
        refine wpAnyH_take (i := 10) (oi := { dst := some 48, op := Op.move (Operand.tmp 0), type := 43, pos := "bid.go:40", after := #[{ on := 9, ground := Ground.guard }], guard := some (9, false) }) (v := undef) rfl (by kernel_rfl) (by kernel_rfl) (by kernel_rfl) (fun _ _ _ h => h) (.inr ⟨rfl, rfl⟩) hS ?_
        try simp only [Act.put, List.setIfInBounds_toArray, List.set_cons_zero, List.set_cons_succ]
        refine wpAnyH_take (i := 11) (oi := { dst := some 49, op := Op.fieldAddr 62 (Operand.tmp 11) 0, type := 0, pos := "bid.go:40", after := #[{ on := 9, ground := Ground.guard }], guard := some (9, false) }) (v := undef) rfl (by kernel_rfl) (by kernel_rfl) (by kernel_rfl) (fun _ _ _ h => h) (.inr ⟨rfl, rfl⟩) hS ?_
        try simp only [Act.put, List.setIfInBounds_toArray, List.set_cons_zero, List.set_cons_succ]
        refine wpAnyH_take (i := 12) (oi := { dst := some 50, op := Op.load 3 (Operand.tmp 49), type := 3, pos := "bid.go:40", after := #[{ on := 11, ground := Ground.data }, { on := 9, ground := Ground.guard }], guard := some (9, false) }) (v := undef) rfl (by kernel_rfl) (by kernel_rfl) (by kernel_rfl) (fun _ _ _ h => h) (.inr ⟨rfl, rfl⟩) hS ?_
        try simp only [Act.put, List.setIfInBounds_toArray, List.set_cons_zero, List.set_cons_succ]
        refine wpAnyH_take (i := 13) (oi := { dst := some 51, op := Op.indexAddr 43 (Operand.tmp 48) (Operand.tmp 50), type := 0, pos := "bid.go:40", after := #[{ on := 10, ground := Ground.data }, { on := 12, ground := Ground.data }, { on := 9, ground := Ground.guard }], guard := some (9, false) }) (v := undef) rfl (by kernel_rfl) (by kernel_rfl) (by kernel_rfl) (fun _ _ _ h => h) (.inr ⟨rfl, rfl⟩) hS ?_
        try simp only [Act.put, List.setIfInBounds_toArray, List.set_cons_zero, List.set_cons_succ]
        refine wpAnyH_take (i := 14) (oi := { dst := some 52, op := Op.load 23 (Operand.tmp 51), type := 23, pos := "bid.go:40", after := #[{ on := 13, ground := Ground.data }, { on := 9, ground := Ground.guard }], guard := some (9, false) }) (v := undef) rfl (by kernel_rfl) (by kernel_rfl) (by kernel_rfl) (fun _ _ _ h => h) (.inr ⟨rfl, rfl⟩) hS ?_
        try simp only [Act.put, List.setIfInBounds_toArray, List.set_cons_zero, List.set_cons_succ]
        refine wpAnyH_take (i := 15) (oi := { dst := some 53, op := Op.load 23 (Operand.tmp 12), type := 23, pos := "bid.go:40", after := #[{ on := 9, ground := Ground.guard }], guard := some (9, false) }) (v := undef) rfl (by kernel_rfl) (by kernel_rfl) (by kernel_rfl) (fun _ _ _ h => h) (.inr ⟨rfl, rfl⟩) hS ?_
        try simp only [Act.put, List.setIfInBounds_toArray, List.set_cons_zero, List.set_cons_succ]
        refine wpAnyH_take (i := 16) (oi := { dst := some 54, op := Op.binOp BinOp.neq 23 (Operand.tmp 52) (Operand.tmp 53) 23, type := 4, pos := "bid.go:40", after := #[{ on := 14, ground := Ground.data }, { on := 15, ground := Ground.data }, { on := 9, ground := Ground.guard }], guard := some (9, false) }) (v := undef) rfl (by kernel_rfl) (by kernel_rfl) (by kernel_rfl) (fun _ _ _ h => h) (.inr ⟨rfl, rfl⟩) hS ?_
        try simp only [Act.put, List.setIfInBounds_toArray, List.set_cons_zero, List.set_cons_succ]
        refine wpAnyH_take (i := 17) (oi := { dst := some 55, op := Op.pick (Operand.tmp 47) (Operand.const (Value.bool true)) (Operand.tmp 54), type := 4, pos := "bid.go:40", after := #[{ on := 9, ground := Ground.data }, { on := 16, ground := Ground.data }], guard := none }) (v := Value.bool true) rfl (by kernel_rfl) (by kernel_rfl) (by kernel_rfl) (fun _ _ _ h => h) (yields_of rfl (fun w => by go_simp)) hS ?_
        refine wpAnyH_done (by kernel_rfl) ?_ _
        have O8 := hid (((unhid HO).below (unhid E6) (Nat.le_refl _)).drew)
        have EW8 := hid (unhid EW7).drew
        clear E6 EW7 HO
        go_wp2_with fail
        go_roundw
        case rel => exact ⟨i + 1, nc, AC, cC, cs, by omega, by go_num, rfl, by omega, HST, HCL, HCS, O8, EW8⟩
        case measure => simp [intOf]; omega
    · have hin2 : i = n1 := by omega
      have i2 : ¬ (i : Int) < (n1 : Int) := by omega
      have hta : bs.take i = bs := List.take_of_length_le (by rw [HBL.out]; omega)
      rw [hta] at HC
      clear hta hin2
      have SO := hid (sort_any cs AC nc cC w.heap.size wr HCS.out (unhid HO) HCL.out hsw (by omega))
      go_wp2_with fail
      refine (unhid SO).mono ?_
      rintro e w2 ⟨rfl, ⟨cs', hp, hpw, hce⟩, hb2⟩
      have hE2 := (unhid HB).trans hb2
      have hpl : cs'.length = nc := by rw [hp.length_eq]; exact HCL.out
      rw [HC.out] at hp
      have HP := hid hp; have HPW := hid hpw; have E2 := hid hE2
      clear hp hpw hb2 hE2 SO HO HB HC HCL HCS
      cases cs' with
      | nil =>
        obtain rfl : nc = 0 := by simpa using hpl.symm
        clear hce hpl
        go_wp2_with fail
        go_ret3
        exact ⟨⟨[], unhid HP, unhid HPW, rfl⟩, unhid E2⟩
      | cons b r =>
        obtain ⟨g, rfl, q0, q1⟩ := hce 0 b rfl
        rw [Nat.zero_mul] at q0 q1
        have hnc0 : (0 : Int) < (nc : Int) := by simp at hpl; omega
        have hnz : ((nc : Int) == 0) = false := by simp; omega
        by_cases hlt : b.amt < least
        · have hres : awardN (b :: r) least = (-1, 0) := by unfold awardN; simp only; rw [if_pos hlt]
          have HRE := hid hres
          clear hce hpl hres
          go_wp2_with fail
          go_ret3
          exact ⟨⟨b :: r, unhid HP, unhid HPW, by rw [HRE.out]; rfl⟩, unhid E2⟩
        · cases r with
          | nil =>
            have hn1 : nc = 1 := by simpa using hpl.symm
            subst hn1
            have hres : awardN [b] least = (b.who, least) := by unfold awardN; simp only; rw [if_neg hlt]
            have HRE := hid hres
            clear hce hpl hres
            go_wp2_with fail
            go_ret3
            exact ⟨⟨[b], unhid HP, unhid HPW, by rw [HRE.out]; rfl⟩, unhid E2⟩
          | cons c r =>
            obtain ⟨g', ea, q2, q3⟩ := hce 1 c rfl
            injection ea with ea
            injection ea with ea
            subst ea
            have hn2 : (1 : Int) < (nc : Int) := by simp at hpl; omega
            have hres : awardN (b :: c :: r) least = (b.who, max least c.amt) := by unfold awardN; simp only; rw [if_neg hlt]
            have HRE := hid hres
            clear hce hpl hres
            go_wp2_with fail
            go_ret3
            exact ⟨⟨b :: c :: r, unhid HP, unhid HPW, by rw [HRE.out]; rfl⟩, unhid E2⟩
end Go.Proofs.YtlaoijnlemgdfaaDoor
