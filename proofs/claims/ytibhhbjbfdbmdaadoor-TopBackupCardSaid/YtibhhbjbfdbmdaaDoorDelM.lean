/- The walks of the closure of wallet.own, of slices.IndexFunc and slices.DeleteFunc at coins. -/
import Derived.Test.YtibhhbjbfdbmdaaDoorCopyM
import Derived.Test.YtibhhbjbfdbmdaaDoorOwnsM
namespace Go.Proofs.YtibhhbjbfdbmdaaDoor
set_option linter.unusedVariables false
set_option linter.unusedSimpArgs false
open Go.RowKit Go.Mny
def keepC (lk : List OpC) (c : CoC) : Bool := sameL lk c.ops
theorem ownI_neg (l m : List OpC) : decide (ownI l m < 0) = !sameL l m := by
  unfold ownI
  cases sameL l m <;> rfl
theorem Ops.more {w : World} {D D' n : Nat} {A : Option Addr} {l : List OpC} (h : Ops w D A n l) (hD : D ≤ D') : Ops w D' A n l :=
  ⟨h.row.more hD, h.len, fun o ho => let q := h.each o ho; ⟨q.op, q.n, q.le, q.max, q.row.more hD, q.b8⟩⟩
theorem LocksR.more {w : World} {D D' : Nat} {AL : Option Addr} {l : List OpC} (h : LocksR w D AL l) (hD : D ≤ D') : LocksR w D' AL l := by
  obtain ⟨A, n, c, h1, h2, h3⟩ := h
  exact ⟨A, n, c, h1.more hD, h2.more hD, h3⟩
theorem range_out {w : World} {g : Nat} {c : CoC} (h : w.rangeAt g 0 (coc c)) (hd : c.tx.length = 32) : w.rangeAt g 33 (outL c.amt c.A c.len c.cap) := by
  obtain ⟨_, h1, h2, _⟩ := coin_cells0 h hd
  intro j v hv
  match j, hv with
  | 0, hv => rw [← hv]; exact h1
  | 1, hv => rw [← hv]; exact h2
def delF (g : Nat) : Value := .func (.func 42) #[] #[.pointer (some ⟨g, 0, none⟩)]
set_option maxHeartbeats 1000000 in
set_option maxRecDepth 100000 in
theorem own1_any (lk : List OpC) (x : CoC) (AL : Option Addr) (cL g : Nat) (w : World) (hc : w.cell? ⟨g, 0, none⟩ = some (.slice AL 1 cL)) (hg : g < w.heap.size) (hL : LocksR w w.heap.size AL lk) (hx : CoOk w w.heap.size x) :
    Calls Tryd.prog 42 #[.agg (coc x).toArray, .pointer (some ⟨g, 0, none⟩)] w fun e w' => e = .returned (.bool (!keepC lk x)) ∧ Below w.heap.size w w' := by
  have HL := hid hL; have HX := hid hx
  have HC := hid hc
  clear hL hx hc
  go_enter Tryd.func42, Tryd.ntmps42
  go_wp2_with (with_reducible refine halt_op (some 2) (.box _ _) (fun K hK => ?_))
  refine go_on hK ?_; clear hK
  refine box_row (cs := (coc x).toArray) rfl (.tmp 0) rfl rfl ?_
  rintro g2 w1 hg2 s1 b1 e1
  have E1 := hid (e1.mono (show w.heap.size ≤ g2 by omega))
  have c0 : w1.cell? ⟨g, 0, none⟩ = some (.slice AL 1 cL) := ((unhid E1).cell (p := ⟨g, 0, none⟩) hg).trans HC.out
  have RO := hid (range_out b1.rangeL (unhid HX).tx)
  have hs1 := (unhid E1).size
  have C := hid (owns_any lk x.ops x.amt AL x.A cL x.len x.cap w.heap.size w1 ((unhid HL).below (unhid E1)) ((unhid HX).ops.below (unhid E1)) hs1)
  clear b1 e1 hg2 s1
  go_wp2_with (with_reducible refine halt_op (some 6) (.load _ _) (fun K hK => ?_))
  refine go_on hK ?_; clear hK
  refine load_mid outRT rfl (.tmp 5) rfl rfl (unhid RO) rfl ?_
  clear c0
  go_wp2_with fail
  refine (unhid C).mono ?_
  rintro e w2 ⟨rfl, hb2⟩
  have E2 := hid ((unhid E1).trans (hb2.mono hs1))
  have HD := hid (ownI_neg lk x.ops)
  obtain ⟨z, hz⟩ : ∃ z, z = ownI lk x.ops := ⟨_, rfl⟩
  rw [← hz] at HD
  rw [← hz]
  clear hb2 C hz
  go_wp2_with fail
  go_ret
  exact ⟨by show Ending.returned (.bool (decide (z < 0))) = _; rw [HD.out]; rfl, unhid E2⟩
theorem coin_row {w : World} {D n i : Nat} {A : Option Addr} {m : List CoC} (h : Row w D 36 A n (cocs m)) (hl : m.length = n) (hm : ∀ c ∈ m, c.tx.length = 32) (hi : i < n) :
    ∃ g q c, A = some ⟨g, q, none⟩ ∧ g < D ∧ Hid (m[i]? = some c) ∧ Hid (w.rangeAt g (q + i * 36) (coc c)) := by
  obtain ⟨g, q, e1, e2, e3⟩ := h.elem hi
  obtain ⟨o, ho⟩ : ∃ o, m[i]? = some o := ⟨_, List.getElem?_eq_getElem (by rw [hl]; exact hi)⟩
  rw [cocs_at hm ho] at e3
  exact ⟨g, q, o, e1, e2, ho, e3⟩
/-- the first coin that is not kept -/
def IdxP (lk : List OpC) (m : List CoC) (n : Nat) (w : World) (e : Ending) (w' : World) : Prop := ∃ k : Nat, k ≤ n ∧ (∀ j c, j < k → m[j]? = some c → keepC lk c = true) ∧ (k < n → ∃ c, m[k]? = some c ∧ keepC lk c = false) ∧ e = .returned (.int .i64 (if k = n then -1 else (k : Int))) ∧ Below w.heap.size w w'
set_option maxHeartbeats 4000000 in
set_option maxRecDepth 100000 in
theorem indexC_any (lk : List OpC) (m : List CoC) (A AL : Option Addr) (n c cL g : Nat) (w : World) (hr : Row w w.heap.size 36 A n (cocs m)) (hl : m.length = n) (hm : ∀ x ∈ m, CoOk w w.heap.size x) (hn : n ≤ 1048576) (hc : w.cell? ⟨g, 0, none⟩ = some (.slice AL 1 cL)) (hg : g < w.heap.size) (hL : LocksR w w.heap.size AL lk) :
    Calls Tryd.prog 62 #[.slice A n c, delF g] w (IdxP lk m n w) := by
  have HR := hid hr; have HLN := hid hl; have HM := hid hm
  have CS : Hid (∀ (x : CoC) (W : World), x ∈ m → Below w.heap.size w W → Calls Tryd.prog 42 #[.agg (coc x).toArray, .pointer (some ⟨g, 0, none⟩)] W fun e w' => e = .returned (.bool (!keepC lk x)) ∧ Below w.heap.size w w') := hid fun x W hx hW =>
    (own1_any lk x AL cL g W ((hW.cell (p := ⟨g, 0, none⟩) hg).trans hc) (Nat.lt_of_lt_of_le hg hW.size) ((hL.below hW).more hW.size) (coOk_kept (S := fun _ => False) (hm x hx) (Kept.of_below hW (Nat.le_refl _)) (fun _ _ h => h) (fun _ _ _ _ h => h))).mono fun e w' h => ⟨h.1, hW.trans (h.2.mono hW.size)⟩
  clear hr hl hm hc hL
  unfold delF
  go_enter Tryd.func62, Tryd.ntmps62
  go_wp2_with fail
  go_loopw [8] (fun v8 wr => ∃ i : Nat, i ≤ n ∧ v8 = .int .i64 (i : Int) ∧ Hid (∀ j x, j < i → m[j]? = some x → keepC lk x = true) ∧ Hid (Below w.heap.size w wr)) (fun v8 _ => n - (intOf v8).toNat)
  case atStart => exact ⟨0, Nat.zero_le _, rfl, hid (fun j x h => absurd h (Nat.not_lt_zero _)), Below.refl _ _⟩
  case round =>
    obtain ⟨i, hi, rfl, HN, HB⟩ := hrel
    by_cases hin : i < n
    · obtain ⟨gr, q, x, rfl, hgr, hx, hrg⟩ := coin_row ((unhid HR).below (unhid HB)) HLN.out (fun x hx => ((unhid HM) x hx).tx) hin
      have hxm := List.mem_of_getElem? hx.out
      have CL := hid (coc_len ((unhid HM) x hxm).tx)
      have HC := hid (CS.out x wr hxm (unhid HB))
      have HX := hid hx.out
      have i2 : (i : Int) < (n : Int) := by omega
      obtain ⟨b, hb⟩ : ∃ b, keepC lk x = b := ⟨_, rfl⟩
      rw [hb] at HC
      have HKB := hid hb
      clear hb hx hxm
      go_wp2_with (with_reducible refine halt_op (some 15) (.load _ _) (fun K hK => ?_))
      refine go_on hK ?_; clear hK
      refine load_mid coinT rfl (.tmp 14) rfl rfl (unhid hrg) CL.out ?_
      cases b
      · go_wp2_with fail
        refine (unhid HC).mono ?_
        rintro e w' ⟨rfl, hb'⟩
        have HB' := hid hb'
        clear hb' HC
        go_wp2_with fail
        go_ret
        refine ⟨i, hi, HN.out, fun _ => ⟨x, HX.out, HKB.out⟩, ?_, unhid HB'⟩
        rw [if_neg (by omega)]; rfl
      · have HN2 : Hid (∀ j y, j < i + 1 → m[j]? = some y → keepC lk y = true) := hid fun j y h h' => by
          by_cases e : j = i
          · rw [e, HX.out] at h'; injection h' with h'; rw [← h']; exact HKB.out
          · exact HN.out j y (by omega) h'
        go_wp2_with fail
        refine (unhid HC).mono ?_
        rintro e w' ⟨rfl, hb'⟩
        have HB' := hid hb'
        clear hb' HC
        go_wp2_with fail
        go_roundw
        case rel => exact ⟨i + 1, by omega, by go_num, HN2, HB'⟩
        case measure => simp [intOf]; omega
    · have hi' : i = n := by omega
      subst hi'
      go_wp2_with fail
      go_ret
      refine ⟨i, Nat.le_refl _, HN.out, fun h => absurd h (Nat.lt_irrefl _), ?_, unhid HB⟩
      rw [if_pos rfl]; rfl
end Go.Proofs.YtibhhbjbfdbmdaaDoor
namespace Go.Mny
open Go.RowKit
theorem zeroCells_one (cs : Array Value) (hs : 0 < cs.size) (h : ∀ v ∈ cs, v.oneCell' = true) (n : Nat) : ∀ v ∈ (Builtin.zeroCells cs n).toList, v.oneCell' = true := by
  intro v hv
  simp only [Builtin.zeroCells, Array.toList_map, List.mem_map] at hv
  obtain ⟨i, _, rfl⟩ := hv
  have hlt : i % cs.size < cs.size := Nat.mod_lt _ hs
  refine h _ ?_
  simp [hlt]
/-- clear(x[i:]) of an own slice: what lies ahead is as it was -/
theorem clear_own {P : Program} {t e s b : Nat} (E : Elt P t e s b) (h1 : ∀ i z, P.info? e = some i → i.zero = some z → ∀ v ∈ z.cells, v.oneCell' = true) {w : World} {ops : Array Oper} {rest : List Oper} {o : Oper} {a : Act} {Q : Exit → Act → World → Prop} (hgd : o.guard = none)
    (x : Operand) (ho : o.op = .call { callee := .builtin .clear, args := #[x], argTypes := #[t] }) {B g n c c' i : Nat} {cs : List Value} (hown : Own w B e s (some ⟨g, 0, none⟩) n c cs) (hi : i < n) (hx : a.eval x = .slice (some ⟨g, i * s, none⟩) (n - i) c')
    (k : ∀ w2, Own w2 B e s (some ⟨g, 0, none⟩) i c (cs.take (i * s)) → w.grownBy w2 (some g) → wpList P ops Q rest (a.put o.dst (.tuple #[])) w2) : wpList P ops Q (o :: rest) a w := by
  refine wpList_plain hgd fun K hK => ?_
  obtain ⟨g', cur, e1, hB, hb, hnc, hcm, hcs, ht⟩ := hown.blk (by omega)
  injection e1 with e1; injection e1 with e1; subst e1
  obtain ⟨inf, z, hinf, hz, q1, q2, q3⟩ := E.info
  have hle : i * s ≤ n * s := Nat.mul_le_mul_right s (Nat.le_of_lt hi)
  have hle2 : n * s ≤ c * s := Nat.mul_le_mul_right s hnc
  have hlen : (Builtin.zeroCells z.cells (n - i)).toList.length = (n - i) * s := by rw [Array.length_toList, size_zeroCells, q3]
  have hsub : (n - i) * s = n * s - i * s := Nat.sub_mul n i s
  have hone := zeroCells_one z.cells (by rw [q3]; exact E.pos) (h1 inf z hinf hz) (n - i)
  have hst := run_storeCells_at (P := P) g (i * s) e (Builtin.zeroCells z.cells (n - i)).toList 0 cur w hb.out (by omega) hone
  simp only [Nat.add_zero] at hst
  have hn0 : n - i ≠ 0 := by omega
  obtain ⟨q, hq⟩ : ∃ q, n - i = q + 1 := ⟨n - i - 1, by omega⟩
  have hr : (Builtin.clear_ #[t] o.type #[.slice (some ⟨g, i * s, none⟩) (n - i) c']).run P w = .ok (.tuple #[]) (w.setRow g (splice cur (i * s) (Builtin.zeroCells z.cells (n - i)).toList)) := by
    rw [hq] at hst ⊢
    simp [Builtin.clear_, run_underlying E.under, zeroValue, typeInfo, hinf, hz, hst, splice]
  unfold Oper.wp execOp
  simp only [ho, resolve, invoke, builtin, Sem.run_bind, Sem.run_pure, Result.andThen_ok, List.map_toArray, List.map_cons, List.map_nil, hx, hr]
  refine hK _ _ (k _ (Own.of_blk (setRow_heap w g cur _ e (0, 0) hb.out) hB (by omega) hcm (by rw [splice_size (by omega)]; exact hcs) ?_) ⟨rfl, rfl, rfl, by simp, fun j _ hj => setRow_other w g j _ (fun h => hj (by rw [h]))⟩)
  unfold splice
  simp only
  rw [List.append_assoc, List.take_append_of_le_length (by rw [List.length_take, Array.length_toList]; omega), List.take_take, Nat.min_self, ← ht, List.take_take, Nat.min_eq_left hle]
theorem cut_from {P : Program} {t e s b : Nat} (E : Elt P t e s b) {w : World} {ops : Array Oper} {rest : List Oper} {o : Oper} {a : Act} {Q : Exit → Act → World → Prop} (hw : Region.wanted o (yielded ops a.tmps) = true)
    (x lo : Operand) (ho : o.op = .slice t x (some lo) none none) {g n c : Nat} (hx : a.eval x = .slice (some ⟨g, 0, none⟩) n c) {kk : IntKind} {i : Nat} (hl : a.eval lo = .int kk (i : Int)) (hi : i < n) (hn : n ≤ c)
    (k : wpList P ops Q rest (a.put o.dst (.slice (some ⟨g, i * s, none⟩) (n - i) (c - i))) w) : wpList P ops Q (o :: rest) a w := by
  refine op_step hw fun K hK => ?_
  have hci : ¬ (c = i) := by omega
  have hadd : (⟨g, 0, none⟩ : Addr).add (i * s) = ⟨g, i * s, none⟩ := by rw [Addr.add_mid, Nat.zero_add]
  have hr : (Instr.sliceAt t (.slice (some ⟨g, 0, none⟩) n c) (some (.int kk (i : Int))) none none).run P w = .ok (.slice (some ⟨g, i * s, none⟩) (n - i) (c - i)) w := by
    have h2 : i ≤ n := by omega
    simp [Instr.sliceAt, Instr.slice, Instr.sliceBounds, Instr.sliceBound, asIntOf, run_underlying E.under, E.sizeE w, Sem.run_bind, h2, hci, hadd]
  unfold Oper.wp execOp
  simp only [ho, hx, hl, Sem.run_bind, Sem.run_pure, Result.andThen_ok, Option.map_none, Option.map_some, hr]
  exact hK _ _ k
end Go.Mny
namespace Go.Proofs.YtibhhbjbfdbmdaaDoor
set_option linter.unusedVariables false
set_option linter.unusedSimpArgs false
open Go.RowKit Go.Mny
theorem put_cocs {us : List CoC} (h : ∀ c ∈ us, c.tx.length = 32) {i : Nat} (hi : i < us.length) (x : CoC) : putAt 36 i (cocs us) (coc x) = cocs (us.set i x) := by
  unfold cocs
  have hl : ∀ l ∈ us.map coc, l.length = 36 := fun l hl => by obtain ⟨c, hc, rfl⟩ := List.mem_map.1 hl; exact coc_len (h c hc)
  unfold putAt
  rw [flat_take _ i hl, flat_drop _ (i + 1) hl, List.map_set, List.set_eq_take_append_cons_drop, if_pos (by rw [List.length_map]; exact hi), List.flatten_append, List.flatten_cons, List.append_assoc]
theorem take_set_snoc {α : Type} {us : List α} {i : Nat} (hi : i < us.length) (x : α) : (us.set i x).take (i + 1) = us.take i ++ [x] := by
  rw [List.take_add_one, List.getElem?_set_self hi, List.take_set_of_le (Nat.le_refl _)]; rfl
theorem cells_agg1 (a : Array Value) : (Value.agg a).cells = a := rfl
theorem zero_some {P : Program} {t : TypeId} {a z : Value} {i : TypeInfo} (h : (P.info? t).bind (·.zero) = some a) (hi : P.info? t = some i) (hz : i.zero = some z) : z = a := by
  rw [hi] at h
  exact (Option.some.inj (h.symm.trans hz)).symm
theorem coinZ_one : ∀ v ∈ coinZ, v.oneCell' = true := by
  intro v hv
  unfold coinZ at hv
  exact coc_one _ v (List.mem_toArray.1 hv)
theorem coinOnes : ∀ i z, Tryd.prog.info? 86 = some i → i.zero = some z → ∀ v ∈ z.cells, v.oneCell' = true := by
  intro i z hi hz v hv
  rw [zero_some coinZ_is hi hz, cells_agg1] at hv
  exact coinZ_one v hv
def DelP (lk : List OpC) (m : List CoC) (B : Nat) (w : World) (e : Ending) (w' : World) : Prop := ∃ A i c, e = .returned (.slice A i c) ∧ Coins w' w'.heap.size A i (m.filter (keepC lk)) ∧ Below B w w'
set_option maxHeartbeats 8000000 in
set_option maxRecDepth 100000 in
theorem delete_any (lk : List OpC) (m : List CoC) (A AL : Option Addr) (n c cL gc B : Nat) (w : World) (hown : Own w B 86 36 A n c (cocs m)) (hl : m.length = n) (hm : ∀ x ∈ m, CoOk w w.heap.size x ∧ CoFar B A w.heap.size x) (hn : n ≤ 1048576) (hB : B ≤ w.heap.size) (hc : w.cell? ⟨gc, 0, none⟩ = some (.slice AL 1 cL)) (hg : gc < B) (hL : LocksR w B AL lk) :
    Calls Tryd.prog 40 #[.slice A n c, delF gc] w (DelP lk m B w) := by
  have IX := hid (indexC_any lk m A AL n c cL gc w (Row.of_own hown) hl (fun x hx => (hm x hx).1) hn hc (by omega) (hL.more hB))
  have HO := hid hown; have HLN := hid hl; have HM := hid hm; have HL := hid hL; have HC := hid hc
  have LE := hown.le
  clear hown hl hm hL hc
  unfold delF at IX ⊢
  go_enter Tryd.func40, Tryd.ntmps40
  go_wp2_with fail
  refine (unhid IX).mono ?_
  rintro e w1 ⟨k, hk, hk1, hk2, rfl, hb1⟩
  have B1 := hid hb1
  clear IX
  by_cases hkn : k = n
  · rw [if_pos hkn]
    have HF : Hid (m.filter (keepC lk) = m) := by
      refine List.filter_eq_self.2 fun x hx => ?_
      obtain ⟨j, hj, rfl⟩ := List.getElem_of_mem hx
      exact hk1 j _ (by rw [HLN.out] at hj; omega) (List.getElem?_eq_getElem hj)
    have hs1 := hb1.size
    clear hb1 hkn hk1 hk2 hk
    go_wp2_with fail
    go_ret
    refine ⟨A, n, c, rfl, ?_, (unhid B1).mono hB⟩
    rw [HF.out]
    exact ⟨(Row.of_own (unhid HO)).below (unhid B1) |>.more hs1, HLN.out, fun x hx => coOk_kept (S := fun _ => False) ((unhid HM) x hx).1 (Kept.of_below (unhid B1) (Nat.le_refl _)) (fun _ _ h => h) (fun _ _ _ _ h => h)⟩
  · rw [if_neg hkn]
    have hkn' : k < n := by omega
    obtain ⟨g, cur, rfl, hBg, _⟩ := (unhid HO).blk (by omega)
    have hgw := ((unhid HO).from_ g rfl).2
    have O1 := hid ((unhid HO).below (unhid B1) (Nat.le_refl _))
    have K1 := hid (Kept.of_below (S := fun q => some g = some q) (unhid B1) (Nat.le_refl _))
    have F1 : Hid (m.take k = (m.take (k + 1)).filter (keepC lk)) := by
      obtain ⟨x, hx, hxd⟩ := hk2 hkn'
      show _ = _
      rw [List.take_add_one, hx, List.filter_append]
      have h1 : (m.take k).filter (keepC lk) = m.take k := List.filter_eq_self.2 fun y hy => by
        obtain ⟨j, hj, rfl⟩ := List.getElem_of_mem hy
        rw [List.length_take] at hj
        exact hk1 j _ (by omega) (by rw [List.getElem_take]; exact List.getElem?_eq_getElem _)
      have h2 : List.filter (keepC lk) (some x).toList = [] := by simp [hxd]
      rw [h1, h2, List.append_nil]
    have BB1 := hid ((unhid B1).mono hB)
    have t1 : ((k : Int) == -1) = false := by simp
    have k0 : (0 : Int) ≤ (k : Int) := by omega
    clear hb1 hk1 hk2 hkn HO
    go_wp2_with fail
    clear t1
    go_loopw [5, 6] (fun v5 v6 wr => ∃ (i j : Nat) (us : List CoC), i < j ∧ j ≤ n ∧ v5 = .int .i64 (i : Int) ∧ v6 = .int .i64 (j : Int) ∧ Hid (Own wr B 86 36 (some ⟨g, 0, none⟩) n c (cocs us)) ∧ Hid (us.length = n) ∧ Hid (us.take i = (m.take j).filter (keepC lk)) ∧ Hid (us.drop j = m.drop j) ∧ Hid (∀ x ∈ us, x ∈ m) ∧ Hid (Kept (fun q => some g = some q) w wr) ∧ Hid (Below B w wr)) (fun _ v6 _ => n - (intOf v6).toNat)
    case atStart => exact ⟨k, k + 1, m, by omega, by omega, rfl, rfl, O1, HLN, F1, rfl, fun x hx => hx, K1, BB1⟩
    case round =>
      obtain ⟨i, j, us, hij, hj, rfl, rfl, HO, HUL, HT, HD, HU, HK, HB⟩ := hrel
      have hsz := (unhid HB).size
      have HTX : Hid (∀ x ∈ us, x.tx.length = 32) := hid fun x hx => ((unhid HM) x (HU.out x hx)).1.tx
      by_cases hlt : j < n
      · obtain ⟨gr, q, x, e1, hgr, hx, hrg⟩ := coin_row (Row.of_own (unhid HO)) HUL.out HTX.out hlt
        injection e1 with e1
        injection e1 with e1 e2
        subst e1; subst e2
        have hxu := List.mem_of_getElem? hx.out
        have hxm := HU.out x hxu
        have hmj : m[j]? = some x := by
          have h1 : (us.drop j)[0]? = some x := by rw [List.getElem?_drop]; exact hx.out
          rw [HD.out, List.getElem?_drop] at h1; exact h1
        have HMJ := hid hmj
        have CL := hid (coc_len (HTX.out x hxu))
        have HXM := hid hxm
        have i2 : (j : Int) < (n : Int) := by omega
        have i3 : (i : Int) < (n : Int) := by omega
        obtain ⟨b, hb⟩ : ∃ b, keepC lk x = b := ⟨_, rfl⟩
        have HKB := hid hb
        rw [Nat.zero_add] at hrg
        obtain ⟨wk, hwk⟩ : ∃ wk : World, wk = wr := ⟨_, rfl⟩
        rw [← hwk] at HB hsz hrg HO HK
        rw [← hwk]
        have hgk := ((unhid HO).from_ g rfl).2
        clear hwk hb hx hxu hxm hmj hgr
        go_wp2_with (with_reducible refine halt_op (some 25) (.load _ _) (fun K hK => ?_))
        refine go_on hK ?_; clear hK
        refine load_mid coinT rfl (.tmp 24) rfl rfl (unhid hrg) CL.out ?_
        go_wp2_with (with_reducible refine halt_op (some 7) (.alloc _) (fun K hK => ?_))
        refine go_on hK ?_; clear hK
        refine alloc_row _ coinZ_is rfl rfl ?_
        rintro g7 w4 hg7 s4 b4 e4
        refine store_row coinT (vs := coc x) rfl (.tmp 7) (.tmp 25) rfl rfl rfl CL.out (coc_one x) b4 coinZ_size ?_
        intro w5 b5 gg5
        have h7 : wk.heap.size ≤ g7 := by omega
        have E5 : Below wk.heap.size wk w5 := (e4.grown gg5 (by omega) (fun q hq => by injection hq with hq; omega)).mono h7
        have h75 : g7 < w5.heap.size := b5.lt'
        have B5 := hid b5
        have hs5 := E5.size
        have O5 := hid ((unhid HO).below E5 (Nat.le_refl _))
        have K5 := hid ((unhid HK).trans (Kept.of_below (S := fun q => some g = some q) E5 (Nat.le_refl _)) (fun _ _ h => h))
        have BB5 := hid ((unhid HB).trans (E5.mono hsz |>.mono (by omega)))
        clear b4 e4 hg7 s4 b5 gg5 E5 hrg HO HK HB
        have X5 : CoOk w5 w5.heap.size x := by
          obtain ⟨h1, h2, h3⟩ := (unhid HM) x HXM.out
          exact coOk_kept h1 (unhid K5) (fun k hk h => (h2 k hk).2.2 h) (fun o ho k hk h => (h3 o ho k hk).2.2 h)
        have C5 := hid (own1_any lk x AL cL gc w5 (((unhid BB5).cell (p := ⟨gc, 0, none⟩) hg).trans HC.out) (by have := (unhid BB5).size; omega) (((unhid HL).below (unhid BB5)).more (by have := (unhid BB5).size; omega)) X5)
        rw [HKB.out] at C5
        clear X5
        go_wp2_with (with_reducible refine halt_op (some 27) (.load _ _) (fun K hK => ?_))
        refine go_on hK ?_; clear hK
        refine load_row coinT rfl (.tmp 7) rfl rfl (unhid B5) CL.out ?_
        cases b
        · go_wp2_with fail
          refine (unhid C5).mono ?_
          rintro e w6 ⟨rfl, hb6⟩
          have O6 := hid ((unhid O5).below hb6 (Nat.le_refl _))
          have K6 := hid ((unhid K5).trans (Kept.of_below (S := fun q => some g = some q) hb6 (Nat.le_refl _)) (fun _ _ h => h))
          have BB6 := hid ((unhid BB5).trans (hb6.mono (by have := (unhid BB5).size; omega)))
          have T6 : Hid (us.take i = (m.take (j + 1)).filter (keepC lk)) := by
            show _ = _
            rw [List.take_add_one, HMJ.out, List.filter_append, ← HT.out]
            have h2 : List.filter (keepC lk) (some x).toList = [] := by simp [HKB.out]
            rw [h2, List.append_nil]
          have D6 : Hid (us.drop (j + 1) = m.drop (j + 1)) := by
            show _ = _
            rw [← List.drop_drop, ← List.drop_drop, HD.out]
          clear hb6 C5 B5 O5 K5 BB5
          go_wp2_with fail
          go_roundw
          case rel => exact ⟨i, j + 1, us, by omega, by omega, rfl, by go_num, O6, HUL, T6, D6, HU, K6, BB6⟩
          case measure => simp [intOf]; omega
        · go_wp2_with fail
          refine (unhid C5).mono ?_
          rintro e w6 ⟨rfl, hb6⟩
          have B6 := hid ((unhid B5).below hb6 h75)
          have O6 := hid ((unhid O5).below hb6 (Nat.le_refl _))
          have K6 := hid ((unhid K5).trans (Kept.of_below (S := fun q => some g = some q) hb6 (Nat.le_refl _)) (fun _ _ h => h))
          have BB6 := hid ((unhid BB5).trans (hb6.mono (by have := (unhid BB5).size; omega)))
          clear hb6 C5 B5 O5 K5 BB5
          go_wp2_with (with_reducible refine halt_op (some 32) (.load _ _) (fun K hK => ?_))
          refine go_on hK ?_; clear hK
          refine load_row coinT rfl (.tmp 7) rfl rfl (unhid B6) CL.out ?_
          go_wp2_with (with_reducible refine halt_op none (.store _ _ _) (fun K hK => ?_))
          refine go_on hK ?_; clear hK
          refine store_own coinT rfl (.tmp 33) (.tmp 32) rfl (q := i * 36) (i := i) (vs := coc x) (unhid O6) (by omega) rfl rfl rfl CL.out (coc_one x) ?_
          intro w7 o7 g7'
          rw [put_cocs HTX.out (by rw [HUL.out]; omega)] at o7
          have O7 := hid o7
          have K7 := hid ((unhid K6).trans (Kept.of_grown g7') (fun _ _ h => h))
          have BB7 := hid ((unhid BB6).grown g7' (by have := (unhid BB6).size; omega) (fun q hq => by injection hq with hq; omega))
          have T7 : Hid ((us.set i x).take (i + 1) = (m.take (j + 1)).filter (keepC lk)) := by
            show _ = _
            rw [take_set_snoc (by rw [HUL.out]; omega), List.take_add_one, HMJ.out, List.filter_append, ← HT.out]
            have h2 : List.filter (keepC lk) (some x).toList = [x] := by simp [HKB.out]
            rw [h2]
          have D7 : Hid ((us.set i x).drop (j + 1) = m.drop (j + 1)) := by
            show _ = _
            rw [List.drop_set_of_lt (by omega), ← List.drop_drop, ← List.drop_drop, HD.out]
          have U7 : Hid (∀ y ∈ us.set i x, y ∈ m) := hid fun y hy => by
            rcases List.mem_or_eq_of_mem_set hy with hy | rfl
            · exact HU.out y hy
            · exact HXM.out
          have UL7 : Hid ((us.set i x).length = n) := by show _ = _; rw [List.length_set, HUL.out]
          clear o7 g7' O6 K6 BB6 B6
          go_wp2_with fail
          go_roundw
          case rel => exact ⟨i + 1, j + 1, us.set i x, by omega, by omega, by go_num, by go_num, O7, UL7, T7, D7, U7, K7, BB7⟩
          case measure => simp [intOf]; omega
      · have hjn : j = n := by omega
        subst hjn
        have HF : Hid (us.take i = m.filter (keepC lk)) := by
          show _ = _
          rw [HT.out, List.take_of_length_le (by rw [HLN.out]; exact Nat.le_refl _)]
        have hgk := ((unhid HO).from_ g rfl).2
        go_wp2_with (with_reducible refine halt_op (some 38) (.slice _ _ _ _ _) (fun K hK => ?_))
        refine go_on hK ?_; clear hK
        refine cut_from coinsEC rfl (.tmp 36) (.tmp 37) rfl rfl (kk := .i64) (i := i) rfl hij LE.1 ?_
        refine clear_own coinsEC coinOnes rfl (.tmp 38) rfl (i := i) (unhid HO) hij rfl ?_
        intro w7 o7 g7
        have e7 : (cocs us).take (i * 36) = cocs (m.filter (keepC lk)) := by
          unfold cocs
          rw [flat_take _ i (fun l hl => by obtain ⟨c, hc, rfl⟩ := List.mem_map.1 hl; exact coc_len (HTX.out c hc)), ← List.map_take, HF.out]
        rw [e7] at o7
        have O7 := hid o7
        have K7 := hid ((unhid HK).trans (Kept.of_grown g7) (fun _ _ h => h))
        have BB7 := hid ((unhid HB).grown g7 (by omega) (fun q hq => by injection hq with hq; omega))
        have FL : Hid ((m.filter (keepC lk)).length = i) := by
          show _ = _
          rw [← HF.out, List.length_take, HUL.out]; omega
        clear o7 g7 e7 HO HK HB
        go_wp2_with (with_reducible refine halt_op (some 41) (.slice _ _ _ _ _) (fun K hK => ?_))
        refine go_on hK ?_; clear hK
        refine cut_own coinsEC rfl (.tmp 39) (.tmp 40) rfl rfl (kk := .i64) (j := i) rfl (by omega) ?_
        go_wp2_with fail
        go_ret
        refine ⟨_, i, c, rfl, ⟨Row.of_own (unhid O7), FL.out, fun x hx => ?_⟩, unhid BB7⟩
        obtain ⟨h1, h2, h3⟩ := (unhid HM) x (List.mem_filter.1 hx).1
        exact coOk_kept h1 (unhid K7) (fun k hk h => (h2 k hk).2.2 h) (fun o ho k hk h => (h3 o ho k hk).2.2 h)
end Go.Proofs.YtibhhbjbfdbmdaaDoor
