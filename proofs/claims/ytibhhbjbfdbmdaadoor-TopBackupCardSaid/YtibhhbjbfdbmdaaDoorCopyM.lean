/- The walks of slices.Clone at bytes, coin.copied and coin.Copy. -/
import Derived.Test.YtibhhbjbfdbmdaaDoorCoinSumW
import Derived.Lib.SliceRun
namespace Go.Mny
open Go.RowKit
theorem run_store_slice {P : Program} {t g i e' : Nat} (hsz : (P.info? t).map (·.size) = some 1) {w : World} {cur : Array Value} {A : Option Addr} {n c : Nat} (hb : Blk w g e' cur) (hi : i < cur.size) :
    (storeVar t ⟨g, i, none⟩ (.slice A n c)).run P w = .ok () (w.setCell ⟨g, i, none⟩ (.slice A n c)) := by
  have hc : w.cell? ⟨g, i, none⟩ = some cur[i] := by rw [hb.cell i]; simp [hi]
  have hf := hb.free i
  have hr : (store ⟨g, i, none⟩ (.slice A n c)).run P w = .ok () (w.setCell ⟨g, i, none⟩ (.slice A n c)) := by simp [go_sem, hc, hf]
  cases hq : P.info? t with
  | none => simp [hq] at hsz
  | some inf =>
    have hs2 : inf.size = 1 := by simpa [hq] using hsz
    simp [storeVar, Sem.run_bind, sizeOf, typeInfo, hq, hs2, Value.cells, storeCells, Addr.add, hr]
theorem store_slice {P : Program} {t : TypeId} (hsz : (P.info? t).map (·.size) = some 1) {w : World} {ops : Array Oper} {rest : List Oper} {o : Oper} {a : Act} {Q : Exit → Act → World → Prop} (hw : Region.wanted o (yielded ops a.tmps) = true)
    (x y : Operand) (ho : o.op = .store t x y) {g i : Nat} (hx : a.eval x = .pointer (some ⟨g, i, none⟩)) {A : Option Addr} {n c : Nat} (hy : a.eval y = .slice A n c) {e' : Nat} {cur : Array Value} (hb : Blk w g e' cur) (hi : i < cur.size)
    (h : ∀ w2, Blk w2 g e' (cur.setIfInBounds i (.slice A n c)) → w.grownBy w2 (some g) → wpList P ops Q rest (a.put o.dst undef) w2) : wpList P ops Q (o :: rest) a w := by
  refine op_step hw fun K hK => ?_
  have hq := run_store_slice (P := P) (A := A) (n := n) (c := c) hsz hb hi
  unfold Oper.wp execOp
  simp only [ho, hx, hy, Instr.storeAt, Instr.sureAddr, Sem.run_bind, Sem.run_pure, Result.andThen_ok, hq]
  exact hK _ _ (h _ (hb.put i _) ⟨rfl, rfl, rfl, by simp, fun j _ hj => Below.heap_setCell _ _ _ _ (fun e => hj (by rw [e]))⟩)
end Go.Mny
namespace Go.Proofs.YtibhhbjbfdbmdaaDoor
set_option linter.unusedVariables false
set_option linter.unusedSimpArgs false
open Go.RowKit Go.Mny
/-- what of an op, and of a coin, does not speak of where it lies -/
def stripO (o : OpC) : OpC := ⟨o.op, o.n, none, o.len, 0, o.d⟩
def stripC (c : CoC) : CoC := ⟨c.tx, c.at_, c.amt, none, c.len, 0, c.ops.map stripO, c.h⟩
/-- it lies in blocks from B on, none of them block g -/
def From (B : Nat) (g A : Option Addr) : Prop := ∀ k, at_ A = some k → B ≤ k ∧ at_ g ≠ some k
theorem OpOk.kept {S : Nat → Prop} {w w' : World} {o : OpC} (h : OpOk w w.heap.size o) (hk : Kept S w w') (hne : ∀ k, at_ o.A = some k → ¬ S k) : OpOk w' w'.heap.size o :=
  ⟨h.op, h.n, h.le, h.max, (h.row.kept (Nat.le_refl _) hk (fun g hg _ => hne g hg)).more hk.size, h.b8⟩
theorem Ops.kept {S : Nat → Prop} {w w' : World} {A : Option Addr} {n : Nat} {l : List OpC} (h : Ops w w.heap.size A n l) (hk : Kept S w w') (h1 : ∀ k, at_ A = some k → ¬ S k) (h2 : ∀ o ∈ l, ∀ k, at_ o.A = some k → ¬ S k) : Ops w' w'.heap.size A n l :=
  ⟨(h.row.kept (Nat.le_refl _) hk (fun g hg _ => h1 g hg)).more hk.size, h.len, fun o ho => (h.each o ho).kept hk (h2 o ho)⟩
def CloneP (l : List Nat) (n : Nat) (w : World) (e : Ending) (w' : World) : Prop := ∃ A c, e = .returned (.slice A n c) ∧ Row w' w'.heap.size 1 A n (bytes l) ∧ n ≤ c ∧ c ≤ maxLen ∧ (∀ k, at_ A = some k → w.heap.size ≤ k ∧ k < w'.heap.size) ∧ Below w.heap.size w w'
set_option maxHeartbeats 1000000 in
set_option maxRecDepth 100000 in
theorem clone_any (l : List Nat) (A : Option Addr) (n c D : Nat) (w : World) (h : Row w D 1 A n (bytes l)) (hD : D ≤ w.heap.size) (hn : n ≤ 1048576) :
    Calls Tryd.prog 76 #[.slice A n c] w (CloneP l n w) := by
  have H := hid h
  have hl : l.length = n := by have := h.len; rw [bytes_len] at this; omega
  clear h
  cases A with
  | none =>
    have hn0 : n = 0 := by
      by_cases h0 : 0 < n
      · obtain ⟨g, o, e, _⟩ := (unhid H).cells h0; cases e
      · omega
    subst hn0
    have hl0 : l = [] := List.eq_nil_of_length_eq_zero hl
    subst hl0
    have en : ∀ w, (binOp .eql 37 (.slice none 0 c) (.slice none 0 0)).run Tryd.prog w = .ok (.bool true) w := fun w => Lib.run_eql_slice_nil w _ _ none 0 c 0 0 Tryd.underlying37
    go_enter Tryd.func76, Tryd.ntmps76
    go_wp2_with fail
    go_ret
    exact ⟨none, 0, rfl, Row.nil _ _ _ _, Nat.le_refl _, Nat.zero_le _, (fun k hk => by cases hk), Below.refl _ _⟩
  | some a =>
    clear hl
    have en : ∀ w, (binOp .eql 37 (.slice (some a) n c) (.slice none 0 0)).run Tryd.prog w = .ok (.bool false) w := fun w => Lib.run_eql_slice_nil w _ _ (some a) n c 0 0 Tryd.underlying37
    go_enter Tryd.func76, Tryd.ntmps76
    go_wp2_with (at_builtin; refine halt_at (fun K hK => ?_))
    refine go_on hK ?_; clear hK
    have b1 := Blk.new w 5 #[]
    have o1 : Own (w.alloc (.cells #[] 5)) w.heap.size 5 1 (some ⟨w.heap.size, 0, none⟩) 0 0 [] := Own.of_blk b1 (Nat.le_refl _) (Nat.le_refl _) (Nat.zero_le _) rfl rfl
    refine app_new bytesE rfl (.tmp 5) (.tmp 6) rfl rfl o1 rfl ((unhid H).alloc hD _) (bytes_one l) (by simp [maxLen]; omega) (by omega) (by simp) ?_
    intro A2 c2 w2 o2 g2 l2
    have E2 := hid (Below.grown ((Below.refl _ _).alloc (Nat.le_refl w.heap.size) _) g2 (by simp) (fun q hq => (o1.from_ q hq).1))
    have O2 := hid o2
    clear o2 g2 l2 o1 b1
    go_wp2_with fail
    go_ret
    exact ⟨A2, c2, rfl, Row.of_own (unhid O2), (unhid O2).le.1, (unhid O2).le.2, (unhid O2).from_, unhid E2⟩
theorem opsEC : Elt Tryd.prog 28 54 3 40 := Elt.of Tryd.underlying28 (.agg #[.int .i64 0, .int .i64 0, .slice none 0 0]) (by kernel_rfl) rfl (by decide)
theorem ocs_snoc (l : List OpC) (o : OpC) : ocs (l ++ [o]) = ocs l ++ oc o := by simp [ocs]
def CopiedP (l : List OpC) (n : Nat) (w : World) (e : Ending) (w' : World) : Prop := ∃ A c l', e = .returned (.slice A n c) ∧ l'.map stripO = l.map stripO ∧ Ops w' w'.heap.size A n l' ∧ n ≤ c ∧ c ≤ maxLen ∧ (∀ k, at_ A = some k → w.heap.size ≤ k ∧ k < w'.heap.size) ∧ (∀ o ∈ l', ∀ k, at_ o.A = some k → w.heap.size ≤ k ∧ k < w'.heap.size) ∧ Below w.heap.size w w'
set_option maxHeartbeats 4000000 in
set_option maxRecDepth 100000 in
theorem copied_any (l : List OpC) (A : Option Addr) (n c D : Nat) (w : World) (h : Ops w D A n l) (hD : D ≤ w.heap.size) (hn : n ≤ 60) (hd : ∀ o ∈ l, o.len ≤ 300) :
    Calls Tryd.prog 63 #[.slice A n c] w (CopiedP l n w) := by
  have HLEN := hid h.len; have HDL := hid hd
  have H := hid h
  clear h hd
  go_enter Tryd.func63, Tryd.ntmps63
  go_wp2_with fail
  go_loopw [8, 3] (fun v8 v3 wr => ∃ (i : Nat) (A2 : Option Addr) (c2 : Nat) (m : List OpC), i ≤ n ∧ v8 = .int .i64 (i : Int) ∧ v3 = .slice A2 i c2 ∧ Hid (Own wr w.heap.size 54 3 A2 i c2 (ocs m)) ∧ Hid (m.map stripO = (l.take i).map stripO) ∧ Hid (∀ o ∈ m, OpOk wr wr.heap.size o ∧ ∀ k, at_ o.A = some k → w.heap.size ≤ k ∧ k < wr.heap.size ∧ at_ A2 ≠ some k) ∧ Hid (Below w.heap.size w wr)) (fun v8 _ _ => n - (intOf v8).toNat)
  case atStart => exact ⟨0, none, 0, [], Nat.zero_le _, rfl, rfl, Own.none _ _ _ _, rfl, fun o ho => absurd ho List.not_mem_nil, Below.refl _ _⟩
  case round =>
    obtain ⟨i, A2, c2, m, hi, rfl, rfl, HO, HS, HE, HB⟩ := hrel
    have hsz := (unhid HB).size
    by_cases hlt : i < n
    · obtain ⟨g, q, x, rfl, hg, hx, hrg, hok⟩ := ((unhid H).below ((unhid HB).mono hD)).get hlt
      have i2 : (i : Int) < (n : Int) := by omega
      have hxl := HDL.out x (List.mem_of_getElem? hx.out)
      have HX := hid hx.out
      obtain ⟨wk, hwk⟩ : ∃ wk : World, wk = wr := ⟨_, rfl⟩
      rw [← hwk] at HB hsz hrg hok HO HE
      rw [← hwk]
      clear hwk hx
      go_wp2_with (with_reducible refine halt_op (some 11) (.load _ _) (fun K hK => ?_))
      refine go_on hK ?_; clear hK
      refine load_mid opT rfl (.tmp 10) rfl rfl (unhid hrg) (oc_len x) ?_
      go_wp2_with (with_reducible refine halt_op (some 5) (.alloc _) (fun K hK => ?_))
      refine go_on hK ?_; clear hK
      refine alloc_row _ opZ rfl rfl ?_
      rintro g5 w4 hg5 s4 b4 e4
      refine store_row opT (vs := oc x) rfl (.tmp 5) (.tmp 11) rfl rfl rfl (oc_len x) (oc_one x) b4 rfl ?_
      intro w5 b5 gg5
      have h5 : wk.heap.size ≤ g5 := by omega
      have E5 : Below wk.heap.size wk w5 := (e4.grown gg5 (by omega) (fun q hq => by injection hq with hq; omega)).mono h5
      have h55 : g5 < w5.heap.size := b5.lt'
      have B5 := hid b5
      have c52 : w5.cell? ⟨g5, 2, none⟩ = some (.slice x.A x.len x.cap) := by rw [b5.cell]; rfl
      have OK5 := hid ((unhid hok).below (E5.mono (by omega)))
      have E5' := hid E5
      clear b4 e4 hg5 s4 b5 gg5 hrg hok E5
      go_wp2_with fail
      refine (clone_any x.d x.A x.len x.cap D w5 (unhid OK5).row (by have := (unhid E5').size; omega) (by omega)).mono ?_
      rintro e w6 ⟨A6, c6, rfl, r6, hc6, hm6, hf6, hb6⟩
      have B6 := hid ((unhid B5).below hb6 h55)
      have E6 := hid ((unhid E5').trans (hb6.mono (unhid E5').size))
      have h56 : g5 < w6.heap.size := by have := hb6.size; omega
      have hs56 := hb6.size
      have hs5 := (unhid E5').size
      have R6 := hid r6
      have F6 := hid hf6
      clear r6 hf6 hb6 B5 E5' c52
      go_wp2_with (with_reducible refine halt_op none (.store _ _ _) (fun K hK => ?_))
      refine go_on hK ?_; clear hK
      refine store_slice (by kernel_rfl) rfl (.tmp 15) (.tmp 14) rfl (g := g5) (i := 2) rfl rfl (unhid B6) (by simp [oc]) ?_
      intro w7 b7 g7
      have K7 : Kept (fun j => some g5 = some j) w6 w7 := Kept.of_grown g7
      obtain ⟨y, hy⟩ : ∃ y : OpC, y = ⟨x.op, x.n, A6, x.len, c6, x.d⟩ := ⟨_, rfl⟩
      have b7' : Blk w7 g5 54 (oc y).toArray := by rw [hy]; exact b7
      have B7 := hid b7'
      have YS : Hid (stripO y = stripO x) := by rw [hy]; rfl
      have YO : Hid (OpOk w7 w7.heap.size y ∧ ∀ k, at_ y.A = some k → w5.heap.size ≤ k ∧ k < w7.heap.size) := by
        have hk7 : ∀ k, at_ A6 = some k → ¬ (some g5 = some k) := fun k hk h => by have := ((unhid F6) k hk).1; injection h with h; omega
        rw [hy]
        exact ⟨⟨(unhid OK5).op, (unhid OK5).n, hc6, hm6, ((unhid R6).kept (Nat.le_refl _) K7 (fun g hg _ => hk7 g hg)).more K7.size, (unhid OK5).b8⟩, fun k hk => ⟨((unhid F6) k hk).1, Nat.lt_of_lt_of_le ((unhid F6) k hk).2 K7.size⟩⟩
      have E7 : Below wk.heap.size wk w7 := (unhid E6).grown g7 (by omega) (fun q hq => by injection hq with hq; omega)
      have hs7 := E7.size
      have HB7 := hid ((unhid HB).trans (E7.mono hsz))
      have HO7 := hid ((unhid HO).below E7 (Nat.le_refl _))
      have A2o := hid ((unhid HO).from_)
      have HE7 : Hid (∀ o ∈ m, OpOk w7 w7.heap.size o ∧ ∀ k, at_ o.A = some k → w.heap.size ≤ k ∧ k < wk.heap.size ∧ at_ A2 ≠ some k) := hid fun o ho => by
        obtain ⟨h1, h2⟩ := (unhid HE) o ho
        exact ⟨h1.kept (S := fun _ => False) (Kept.of_below E7 (Nat.le_refl _)) (fun _ _ h => h), h2⟩
      clear b7 b7' g7 K7 hy E7 HB HO HE E6 B6 R6 F6 OK5
      go_wp2_with (with_reducible refine halt_op (some 17) (.load _ _) (fun K hK => ?_))
      refine go_on hK ?_; clear hK
      refine load_row opT rfl (.tmp 5) rfl rfl (unhid B7) (oc_len y) ?_
      refine build1 opsEC (by decide) rfl (.tmp 17) rfl (cs := oc y) rfl (oc_len y) ?_
      intro b8
      obtain ⟨w8, hw8⟩ : ∃ W, W = w7.alloc (.cells (oc y).toArray 54) := ⟨_, rfl⟩
      obtain ⟨g8, hg8⟩ : ∃ g, g = w7.heap.size := ⟨_, rfl⟩
      have E8 : Below w7.heap.size w7 w8 := by rw [hw8]; exact (Below.refl _ _).alloc (Nat.le_refl _) _
      rw [← hw8, ← hg8] at b8
      rw [← hw8, ← hg8]
      have hs8 := E8.size
      have R8 : Hid (Row w8 (g8 + 1) 3 (some ⟨g8, 0, none⟩) 1 (oc y)) := ⟨rfl, fun _ => ⟨g8, 0, rfl, by omega, fun j hj => by rw [Nat.zero_add, b8.cell]; simp⟩⟩
      have HB8 := hid ((unhid HB7).trans (E8.mono (unhid HB7).size))
      have HO8 := hid ((unhid HO7).below E8 (Nat.le_refl _))
      have K8 := hid (Kept.of_below (S := fun _ => False) E8 (Nat.le_refl _))
      clear b8 hw8 hg8 E8 HO7 HB7
      go_wp2_with (at_builtin; refine halt_at (fun K hK => ?_))
      refine go_on hK ?_; clear hK
      refine app_step opsEC rfl (.tmp 16) (.tmp 18) rfl rfl (unhid HO8) rfl (unhid R8) (oc_one y) (by simp [maxLen]; omega) (by omega) (unhid HB8).size ?_
      intro A9 c9 w9 o9 g9 l9
      rw [← ocs_snoc] at o9
      have O9 := hid o9
      have K9 : Kept (fun j => at_ A2 = some j) w8 w9 := Kept.of_grown g9
      have B9 := hid ((unhid HB8).grown g9 (unhid HB8).size (fun q hq => ((unhid HO8).from_ q hq).1))
      have S9 : Hid ((m ++ [y]).map stripO = (l.take (i + 1)).map stripO) := by
        show _ = _
        rw [List.take_add_one, HX.out, List.map_append, List.map_append, HS.out]
        show _ ++ [stripO y] = _ ++ [stripO x]
        rw [YS.out]
      have HE9 : Hid (∀ o ∈ m ++ [y], OpOk w9 w9.heap.size o ∧ ∀ k, at_ o.A = some k → w.heap.size ≤ k ∧ k < w9.heap.size ∧ at_ A9 ≠ some k) := hid fun o ho => by
        have key : OpOk w7 w7.heap.size o ∧ ∀ k, at_ o.A = some k → w.heap.size ≤ k ∧ k < w7.heap.size ∧ at_ A2 ≠ some k := by
          rcases List.mem_append.1 ho with ho | ho
          · obtain ⟨h1, h2⟩ := (unhid HE7) o ho
            exact ⟨h1, fun k hk => ⟨(h2 k hk).1, by have := (h2 k hk).2.1; omega, (h2 k hk).2.2⟩⟩
          · rw [List.mem_singleton.1 ho]
            refine ⟨YO.out.1, fun k hk => ⟨by have := (YO.out.2 k hk).1; omega, (YO.out.2 k hk).2, fun h => ?_⟩⟩
            have h1 := (YO.out.2 k hk).1
            have h2 := ((unhid A2o) k h).2
            omega
        obtain ⟨h1, h2⟩ := key
        refine ⟨(h1.kept (unhid K8) (fun _ _ h => h)).kept K9 (fun k hk => (h2 k hk).2.2), fun k hk => ⟨(h2 k hk).1, ?_, fun h => ?_⟩⟩
        · have := (h2 k hk).2.1; have := K9.size; omega
        · rcases l9 with l9 | l9
          · exact (h2 k hk).2.2 (l9 ▸ h)
          · rw [l9] at h
            injection h with h
            have := (h2 k hk).2.1
            omega
      clear o9 g9 l9 K9 HO8 HB8 HE7 YO A2o K8
      go_wp2_with fail
      go_roundw
      case rel => exact ⟨i + 1, A9, c9, m ++ [y], by omega, by go_num, rfl, O9, S9, HE9, B9⟩
      case measure => simp [intOf]; omega
    · have hin : i = n := by omega
      subst hin
      have HM : Hid (m.map stripO = l.map stripO) := by
        have := HS.out
        rw [List.take_of_length_le (by rw [HLEN.out]; exact Nat.le_refl _)] at this
        exact this
      have ML : Hid (m.length = i) := by
        have := congrArg List.length HM.out
        rw [List.length_map, List.length_map, HLEN.out] at this
        exact this
      go_wp2_with fail
      go_ret
      refine ⟨A2, c2, m, rfl, HM.out, ⟨Row.of_own (unhid HO), ML.out, fun o ho => ((unhid HE) o ho).1⟩, (unhid HO).le.1, (unhid HO).le.2, (unhid HO).from_, fun o ho k hk => ⟨(((unhid HE) o ho).2 k hk).1, (((unhid HE) o ho).2 k hk).2.1⟩, unhid HB⟩
end Go.Proofs.YtibhhbjbfdbmdaaDoor
namespace Go.Proofs.YtibhhbjbfdbmdaaDoor
set_option linter.unusedVariables false
set_option linter.unusedSimpArgs false
open Go.RowKit Go.Mny
theorem coinsEC : Elt Tryd.prog 26 86 36 80 := Elt.of Tryd.underlying26 (.agg coinZ) (by kernel_rfl) (by simp [Value.cells, coinZ_size]) (by decide)
theorem cocs_snoc (l : List CoC) (c : CoC) : cocs (l ++ [c]) = cocs l ++ coc c := by simp [cocs]
/-- it lies apart from block g, from block B on -/
def CoFar (B : Nat) (g : Option Addr) (T : Nat) (c : CoC) : Prop := (∀ k, at_ c.A = some k → B ≤ k ∧ k < T ∧ at_ g ≠ some k) ∧ ∀ o ∈ c.ops, ∀ k, at_ o.A = some k → B ≤ k ∧ k < T ∧ at_ g ≠ some k
theorem coOk_kept {S : Nat → Prop} {w w' : World} {c : CoC} (h : CoOk w w.heap.size c) (hk : Kept S w w') (h1 : ∀ k, at_ c.A = some k → ¬ S k) (h2 : ∀ o ∈ c.ops, ∀ k, at_ o.A = some k → ¬ S k) : CoOk w' w'.heap.size c :=
  ⟨h.tx, h.b8, h.at_, h.amt, h.h, h.le, h.max, h.ops.kept hk h1 h2⟩
theorem set_snoc (a : List Value) (p q r s v : Value) (n : Nat) (h : a.length = n) : (a ++ [p, q, r, s]).set (n + 2) v = a ++ [p, q, v, s] := by
  subst h
  rw [List.set_append_right _ _ (by omega)]
  simp
theorem coc_setLock (c : CoC) (h : c.tx.length = 32) (A : Option Addr) (n cp : Nat) (ops : List OpC) : (coc c).toArray.setIfInBounds 34 (.slice A n cp) = (coc ⟨c.tx, c.at_, c.amt, A, n, cp, ops, c.h⟩).toArray := by
  rw [List.setIfInBounds_toArray]
  apply congrArg List.toArray
  exact set_snoc (bytes c.tx) _ _ _ _ _ 32 (by rw [bytes_len, h])
/-- there is room for what is copied -/
def Small (c : CoC) : Prop := c.len ≤ 60 ∧ ∀ o ∈ c.ops, o.len ≤ 300
def CopyP (l : List CoC) (n : Nat) (w : World) (e : Ending) (w' : World) : Prop := ∃ A c m, e = .returned (.slice A n c) ∧ m.map stripC = l.map stripC ∧ m.length = n ∧ Own w' w.heap.size 86 36 A n c (cocs m) ∧ (∀ x ∈ m, CoOk w' w'.heap.size x ∧ CoFar w.heap.size A w'.heap.size x) ∧ Below w.heap.size w w'
set_option maxHeartbeats 8000000 in
set_option maxRecDepth 100000 in
theorem copy_any (l : List CoC) (A : Option Addr) (n c D : Nat) (w : World) (h : Coins w D A n l) (hD : D ≤ w.heap.size) (hn : n ≤ 1000) (hd : ∀ c ∈ l, Small c) :
    Calls Tryd.prog 41 #[.slice A n c] w (CopyP l n w) := by
  have HLEN := hid h.len; have HDL := hid hd
  have H := hid h
  clear h hd
  go_enter Tryd.func41, Tryd.ntmps41
  go_wp2_with fail
  go_loopw [8, 3] (fun v8 v3 wr => ∃ (i : Nat) (A2 : Option Addr) (c2 : Nat) (m : List CoC), i ≤ n ∧ v8 = .int .i64 (i : Int) ∧ v3 = .slice A2 i c2 ∧ Hid (Own wr w.heap.size 86 36 A2 i c2 (cocs m)) ∧ Hid (m.map stripC = (l.take i).map stripC) ∧ Hid (∀ x ∈ m, CoOk wr wr.heap.size x ∧ CoFar w.heap.size A2 wr.heap.size x) ∧ Hid (Below w.heap.size w wr)) (fun v8 _ _ => n - (intOf v8).toNat)
  case atStart => exact ⟨0, none, 0, [], Nat.zero_le _, rfl, rfl, Own.none _ _ _ _, rfl, fun o ho => absurd ho List.not_mem_nil, Below.refl _ _⟩
  case round =>
    obtain ⟨i, A2, c2, m, hi, rfl, rfl, HO, HS, HE, HB⟩ := hrel
    have hsz := (unhid HB).size
    by_cases hlt : i < n
    · obtain ⟨g, q, x, rfl, hg, hx, hrg, hok⟩ := ((unhid H).below ((unhid HB).mono hD)).get hlt
      have i2 : (i : Int) < (n : Int) := by omega
      have hxl := HDL.out x (List.mem_of_getElem? hx.out)
      have HX := hid hx.out
      have HXL := hid hxl
      have TXL := hid (unhid hok).tx
      have CL := hid (coc_len (unhid hok).tx)
      have A2o := hid ((unhid HO).from_)
      obtain ⟨wk, hwk⟩ : ∃ wk : World, wk = wr := ⟨_, rfl⟩
      rw [← hwk] at HB hsz hrg hok HO HE A2o
      rw [← hwk]
      clear hwk hx hxl
      go_wp2_with (with_reducible refine halt_op (some 11) (.load _ _) (fun K hK => ?_))
      refine go_on hK ?_; clear hK
      refine load_mid coinT rfl (.tmp 10) rfl rfl (unhid hrg) CL.out ?_
      go_wp2_with (with_reducible refine halt_op (some 5) (.alloc _) (fun K hK => ?_))
      refine go_on hK ?_; clear hK
      refine alloc_row _ coinZ_is rfl rfl ?_
      rintro g5 w4 hg5 s4 b4 e4
      refine store_row coinT (vs := coc x) rfl (.tmp 5) (.tmp 11) rfl rfl rfl CL.out (coc_one x) b4 coinZ_size ?_
      intro w5 b5 gg5
      have h5 : wk.heap.size ≤ g5 := by omega
      have E5 : Below wk.heap.size wk w5 := (e4.grown gg5 (by omega) (fun q hq => by injection hq with hq; omega)).mono h5
      have h55 : g5 < w5.heap.size := b5.lt'
      have B5 := hid b5
      have c534 := (coin_cells0 b5.rangeL TXL.out).2.2.1
      have OK5 := hid ((unhid hok).below (E5.mono (by omega)))
      have E5' := hid E5
      have hs5 := E5.size
      clear b4 e4 hg5 s4 b5 gg5 hrg hok E5
      go_wp2_with fail
      refine (copied_any x.ops x.A x.len x.cap D w5 (unhid OK5).ops (by omega) HXL.out.1 HXL.out.2).mono ?_
      rintro e w6 ⟨A6, c6, ops6, rfl, hs6, hop6, hc6, hm6, hf6, hg6, hb6⟩
      have B6 := hid ((unhid B5).below hb6 h55)
      have E6 := hid ((unhid E5').trans (hb6.mono hs5))
      have hs56 := hb6.size
      have OP6 := hid hop6; have F6 := hid hf6; have G6 := hid hg6; have S6 := hid hs6
      clear hop6 hf6 hg6 hs6 hb6 B5 E5' c534
      go_wp2_with (with_reducible refine halt_op none (.store _ _ _) (fun K hK => ?_))
      refine go_on hK ?_; clear hK
      refine store_slice (by kernel_rfl) rfl (.tmp 17) (.tmp 15) rfl (g := g5) (i := 34) rfl rfl (unhid B6) (by rw [List.size_toArray, CL.out]; decide) ?_
      intro w7 b7 g7
      have K7 : Kept (fun j => some g5 = some j) w6 w7 := Kept.of_grown g7
      rw [coc_setLock x TXL.out A6 x.len c6 ops6] at b7
      obtain ⟨y, hy⟩ : ∃ y : CoC, y = ⟨x.tx, x.at_, x.amt, A6, x.len, c6, ops6, x.h⟩ := ⟨_, rfl⟩
      rw [← hy] at b7
      have B7 := hid b7
      have YS : Hid (stripC y = stripC x) := by
        show _ = _
        rw [hy]
        show (⟨x.tx, x.at_, x.amt, none, x.len, 0, ops6.map stripO, x.h⟩ : CoC) = ⟨x.tx, x.at_, x.amt, none, x.len, 0, x.ops.map stripO, x.h⟩
        rw [S6.out]
      have YL : Hid ((coc y).length = 36) := coc_len (by rw [hy]; exact TXL.out)
      have YO : Hid (CoOk w7 w7.heap.size y ∧ CoFar w5.heap.size A2 w7.heap.size y) := by
        have hA2 : ∀ k, w5.heap.size ≤ k → at_ A2 ≠ some k := fun k hk h => by have := ((unhid A2o) k h).2; omega
        have k1 : ∀ k, at_ A6 = some k → ¬ (some g5 = some k) := fun k hk h => by have := ((unhid F6) k hk).1; injection h with h; omega
        have k2 : ∀ o ∈ ops6, ∀ k, at_ o.A = some k → ¬ (some g5 = some k) := fun o ho k hk h => by have := ((unhid G6) o ho k hk).1; injection h with h; omega
        have kops := (unhid OP6).kept K7 k1 k2
        rw [hy]
        refine ⟨⟨(unhid OK5).tx, (unhid OK5).b8, (unhid OK5).at_, (unhid OK5).amt, (unhid OK5).h, hc6, hm6, kops⟩, fun k hk => ⟨((unhid F6) k hk).1, Nat.lt_of_lt_of_le ((unhid F6) k hk).2 K7.size, hA2 k ((unhid F6) k hk).1⟩, fun o ho k hk => ⟨((unhid G6) o ho k hk).1, Nat.lt_of_lt_of_le ((unhid G6) o ho k hk).2 K7.size, hA2 k ((unhid G6) o ho k hk).1⟩⟩
      have E7 : Below wk.heap.size wk w7 := (unhid E6).grown g7 (by omega) (fun q hq => by injection hq with hq; omega)
      have hs7 := E7.size
      have HB7 := hid ((unhid HB).trans (E7.mono hsz))
      have HO7 := hid ((unhid HO).below E7 (Nat.le_refl _))
      have HE7 : Hid (∀ o ∈ m, CoOk w7 w7.heap.size o ∧ CoFar w.heap.size A2 wk.heap.size o) := hid fun o ho => by
        obtain ⟨h1, h2⟩ := (unhid HE) o ho
        exact ⟨coOk_kept (S := fun _ => False) h1 (Kept.of_below E7 (Nat.le_refl _)) (fun _ _ h => h) (fun _ _ _ _ h => h), h2⟩
      clear b7 g7 K7 hy E7 HB HO HE E6 B6 OP6 F6 G6 OK5
      go_wp2_with (with_reducible refine halt_op (some 19) (.load _ _) (fun K hK => ?_))
      refine go_on hK ?_; clear hK
      refine load_row coinT rfl (.tmp 5) rfl rfl (unhid B7) YL.out ?_
      refine build1 coinsEC (by decide) rfl (.tmp 19) rfl (cs := coc y) rfl YL.out ?_
      intro b8
      obtain ⟨w8, hw8⟩ : ∃ W, W = w7.alloc (.cells (coc y).toArray 86) := ⟨_, rfl⟩
      obtain ⟨g8, hg8⟩ : ∃ g, g = w7.heap.size := ⟨_, rfl⟩
      have E8 : Below w7.heap.size w7 w8 := by rw [hw8]; exact (Below.refl _ _).alloc (Nat.le_refl _) _
      rw [← hw8, ← hg8] at b8
      rw [← hw8, ← hg8]
      have hs8 := E8.size
      have R8 : Hid (Row w8 (g8 + 1) 36 (some ⟨g8, 0, none⟩) 1 (coc y)) := ⟨YL.out, fun _ => ⟨g8, 0, rfl, by omega, fun j hj => by rw [Nat.zero_add, b8.cell]; simp⟩⟩
      have HB8 := hid ((unhid HB7).trans (E8.mono (unhid HB7).size))
      have HO8 := hid ((unhid HO7).below E8 (Nat.le_refl _))
      have K8 := hid (Kept.of_below (S := fun _ => False) E8 (Nat.le_refl _))
      clear b8 hw8 hg8 E8 HO7 HB7
      go_wp2_with (at_builtin; refine halt_at (fun K hK => ?_))
      refine go_on hK ?_; clear hK
      refine app_step coinsEC rfl (.tmp 18) (.tmp 20) rfl rfl (unhid HO8) rfl (unhid R8) (coc_one y) (by simp [maxLen]; omega) (by omega) (unhid HB8).size ?_
      intro A9 c9 w9 o9 g9 l9
      rw [← cocs_snoc] at o9
      have O9 := hid o9
      have K9 : Kept (fun j => at_ A2 = some j) w8 w9 := Kept.of_grown g9
      have B9 := hid ((unhid HB8).grown g9 (unhid HB8).size (fun q hq => ((unhid HO8).from_ q hq).1))
      have S9 : Hid ((m ++ [y]).map stripC = (l.take (i + 1)).map stripC) := by
        show _ = _
        rw [List.take_add_one, HX.out, List.map_append, List.map_append, HS.out]
        show _ ++ [stripC y] = _ ++ [stripC x]
        rw [YS.out]
      have HE9 : Hid (∀ o ∈ m ++ [y], CoOk w9 w9.heap.size o ∧ CoFar w.heap.size A9 w9.heap.size o) := hid fun o ho => by
        have key : CoOk w7 w7.heap.size o ∧ CoFar w.heap.size A2 w7.heap.size o := by
          rcases List.mem_append.1 ho with ho | ho
          · obtain ⟨h1, h2, h3⟩ := (unhid HE7) o ho
            exact ⟨h1, fun k hk => ⟨(h2 k hk).1, by have := (h2 k hk).2.1; omega, (h2 k hk).2.2⟩, fun o' ho' k hk => ⟨(h3 o' ho' k hk).1, by have := (h3 o' ho' k hk).2.1; omega, (h3 o' ho' k hk).2.2⟩⟩
          · rw [List.mem_singleton.1 ho]
            obtain ⟨h1, h2, h3⟩ := YO.out
            exact ⟨h1, fun k hk => ⟨by have := (h2 k hk).1; omega, (h2 k hk).2⟩, fun o' ho' k hk => ⟨by have := (h3 o' ho' k hk).1; omega, (h3 o' ho' k hk).2⟩⟩
        obtain ⟨h1, h2, h3⟩ := key
        have far : ∀ k, w.heap.size ≤ k ∧ k < w7.heap.size ∧ at_ A2 ≠ some k → w.heap.size ≤ k ∧ k < w9.heap.size ∧ at_ A9 ≠ some k := fun k ⟨f1, f2, f3⟩ => by
          refine ⟨f1, ?_, fun h => ?_⟩
          · have := K9.size; omega
          · rcases l9 with l9 | l9
            · exact f3 (l9 ▸ h)
            · rw [l9] at h
              injection h with h
              omega
        exact ⟨coOk_kept (coOk_kept h1 (unhid K8) (fun _ _ h => h) (fun _ _ _ _ h => h)) K9 (fun k hk => (h2 k hk).2.2) (fun o' ho' k hk => (h3 o' ho' k hk).2.2), fun k hk => far k (h2 k hk), fun o' ho' k hk => far k (h3 o' ho' k hk)⟩
      clear o9 g9 l9 K9 HO8 HB8 HE7 YO A2o K8
      go_wp2_with fail
      go_roundw
      case rel => exact ⟨i + 1, A9, c9, m ++ [y], by omega, by go_num, rfl, O9, S9, HE9, B9⟩
      case measure => simp [intOf]; omega
    · have hin : i = n := by omega
      subst hin
      have HM : Hid (m.map stripC = l.map stripC) := by
        have := HS.out
        rw [List.take_of_length_le (by rw [HLEN.out]; exact Nat.le_refl _)] at this
        exact this
      have ML : Hid (m.length = i) := by
        have := congrArg List.length HM.out
        rw [List.length_map, List.length_map, HLEN.out] at this
        exact this
      go_wp2_with fail
      go_ret
      exact ⟨A2, c2, m, rfl, HM.out, ML.out, unhid HO, unhid HE, unhid HB⟩
end Go.Proofs.YtibhhbjbfdbmdaaDoor
