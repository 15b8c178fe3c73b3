/- The walks of slices.Grow (of nil) and slices.Concat at bytes. -/
import Derived.Test.YtlaoijnlemgdfaaDoorShaSumW
import Derived.Test.YtlaoijnlemgdfaaDoorHand
namespace Go.Mny
set_option linter.unusedVariables false
open Go.RowKit
/-- append(nil, make([]T, n)...) -/
theorem run_app_make {P : Program} {w : World} {t ti ty e b : Nat} (E : Elt P t e 1 b) (hti : P.underlying ti = some (.int .i64)) {n : Nat} (hn : 0 < n) (hb : n * b ≤ 140737488355328) (hm : n ≤ maxLen) :
    ∃ g c w2, (Builtin.append_ #[t, ti] ty #[.slice none 0 0, .int .i64 (n : Int)]).run P w = .ok (.slice (some ⟨g, 0, none⟩) n c) w2 ∧ Own w2 w.heap.size e 1 (some ⟨g, 0, none⟩) 0 c [] ∧ n ≤ c ∧ Below w.heap.size w w2 := by
  obtain ⟨i, z, hi, hz, e1, e2, e3⟩ := E.info
  have hsmall : n ≤ 9223372036854775807 := by simp only [maxLen] at hm; omega
  have hge := grownCap_ge w n 0 e
  have hle := grownCap_le_maxLen w n 0 e hm
  have hf := growslice_fits (need := n) (old := 0) (bytes := b) hn hb
  have hw : IntKind.i64.wrap (n : Int) = n := IntWalk.i64_in _ (by omega)
  have h0 : ¬ ((n : Int) < 0) := by omega
  have h1 : ¬ (281474976710656 < (n : Int) * (b : Int)) := by
    have h : ((n * b : Nat) : Int) ≤ 140737488355328 := by omega
    rw [Int.natCast_mul] at h
    omega
  have h2 : ¬ (n = 0) := by omega
  have h3 : ¬ (9223372036854775807 < (n : Int)) := by omega
  have h4 : ¬ (281474976710656 < Builtin.nextslicecap n 0 * b) := by omega
  have hr : (Builtin.append_ #[t, ti] ty #[.slice none 0 0, .int .i64 (n : Int)]).run P w = .ok (.slice (some ⟨w.heap.size, 0, none⟩) n (grownCap w n 0 e)) (w.drew.alloc (.cells (Builtin.zeroCells z.cells n ++ Builtin.zeroCells z.cells (grownCap w n 0 e - n)) e)) := by
    have h6 : max (n : Int) 0 = n := by omega
    simp [Builtin.append_, run_underlying E.under, run_underlying hti, sizeOf, typeInfo, zeroValue, hi, hz, e1, e2, hw, h0, h1, h2, h3, h4, h6, asInt, asIntOf, Question.forced, Builtin.firstCells, newRow, grownCap]
  refine ⟨w.heap.size, grownCap w n 0 e, _, hr, ⟨rfl, .inr ⟨w.heap.size, _, _, rfl, Nat.le_refl _, heap_alloc_new w.drew _, Nat.zero_le _, hle, ?_, by simp⟩⟩, hge, ((Below.refl _ _).drew).alloc (Nat.le_refl _) _⟩
  simp only [Array.size_append, size_zeroCells, e3]
  omega
theorem app_make {P : Program} {t ti e b : Nat} (E : Elt P t e 1 b) (hti : P.underlying ti = some (.int .i64)) {w : World} {ops : Array Oper} {rest : List Oper} {o : Oper} {a : Act} {Q : Exit → Act → World → Prop} (hgd : o.guard = none)
    (x y : Operand) (ho : o.op = .call { callee := .builtin .append, args := #[x, y], argTypes := #[t, ti] }) (hx : a.eval x = .slice none 0 0) {n : Nat} (hy : a.eval y = .int .i64 (n : Int)) (hn : 0 < n) (hb : n * b ≤ 140737488355328) (hm : n ≤ maxLen)
    (k : ∀ g c w2, Own w2 w.heap.size e 1 (some ⟨g, 0, none⟩) 0 c [] → n ≤ c → Below w.heap.size w w2 → wpList P ops Q rest (a.put o.dst (.slice (some ⟨g, 0, none⟩) n c)) w2) :
    wpList P ops Q (o :: rest) a w := by
  refine wpList_plain hgd fun K hK => ?_
  obtain ⟨g, c, w2, hr, g1, g2, g3⟩ := run_app_make (P := P) (w := w) (ty := o.type) E hti hn hb hm
  unfold Oper.wp execOp
  simp only [ho, resolve, invoke, builtin, Sem.run_bind, Sem.run_pure, Result.andThen_ok, List.map_toArray, List.map_cons, List.map_nil, hx, hy, hr]
  exact hK _ _ (k g c w2 g1 g2 g3)
/-- x[:0] -/
theorem cut_all {P : Program} {t e s b : Nat} (E : Elt P t e s b) {w : World} {ops : Array Oper} {rest : List Oper} {o : Oper} {a : Act} {Q : Exit → Act → World → Prop} (hw : Region.wanted o (yielded ops a.tmps) = true)
    (x hi : Operand) (ho : o.op = .slice t x none (some hi) none) {g n c : Nat} (hx : a.eval x = .slice (some ⟨g, 0, none⟩) n c) {kk : IntKind} (hh : a.eval hi = .int kk ((0 : Nat) : Int)) (hc : 0 < c)
    (k : wpList P ops Q rest (a.put o.dst (.slice (some ⟨g, 0, none⟩) 0 c)) w) : wpList P ops Q (o :: rest) a w := by
  refine op_step hw fun K hK => ?_
  have hr : (Instr.sliceAt t (.slice (some ⟨g, 0, none⟩) n c) none (some (.int kk ((0 : Nat) : Int))) none).run P w = .ok (.slice (some ⟨g, 0, none⟩) 0 c) w := by
    simp [Instr.sliceAt, Instr.slice, Instr.sliceBounds, Instr.sliceBound, asIntOf, run_underlying E.under, E.sizeE w, Sem.run_bind, Addr.add]
  unfold Oper.wp execOp
  simp only [ho, hx, hh, Sem.run_bind, Sem.run_pure, Result.andThen_ok, Option.map_none, Option.map_some, hr]
  exact hK _ _ k
/-- One of the slices that are joined. -/
structure Part where
  A : Option Addr
  n : Nat
  c : Nat
  l : List Nat
def Part.val (p : Part) : Value := .slice p.A p.n p.c
end Go.Mny
namespace Go.Proofs.YtlaoijnlemgdfaaDoor
set_option linter.unusedVariables false
open Go.RowKit Go.Mny
theorem intT : Tryd.prog.underlying 3 = some (.int .i64) := Tryd.underlying3
def GrowP (w : World) (e : Ending) (w' : World) : Prop := ∃ A c, e = .returned (.slice A 0 c) ∧ Own w' w.heap.size 5 1 A 0 c [] ∧ Below w.heap.size w w'
set_option maxHeartbeats 1000000 in
theorem grow_nil (n : Nat) (w : World) (hn : n ≤ 140737488355000) : Calls Tryd.prog 50 #[.slice none 0 0, .int .i64 (n : Int)] w (GrowP w) := by
  by_cases h : n = 0
  · subst h
    go_enter Tryd.func50, Tryd.ntmps50
    go_wp2_with fail
    go_ret
    exact ⟨none, 0, rfl, Own.none _ _ _ _, Below.refl _ _⟩
  · have h1 : (0 : Int) < (n : Int) := by omega
    go_enter Tryd.func50, Tryd.ntmps50
    go_wp2_with (at_builtin; refine halt_at (fun K hK => ?_))
    refine go_on hK ?_; clear hK
    refine app_make bytesE intT rfl (.tmp 20) (.tmp 21) rfl rfl (n := n) rfl (by omega) (by omega) (by simp [maxLen]; omega) ?_
    intro g c w2 o2 hc b2
    have O2 := hid o2; have B2 := hid b2
    clear o2 b2
    have hc0 : 0 < c := by omega
    go_wp2_with (with_reducible refine halt_op (some 25) (.slice _ _ _ _ _) (fun K hK => ?_))
    refine go_on hK ?_; clear hK
    refine cut_all bytesE rfl (.tmp 22) (.tmp 24) rfl rfl (kk := .i64) rfl hc0 ?_
    go_wp2_with fail
    go_ret
    exact ⟨_, _, rfl, unhid O2, unhid B2⟩
def catN (ps : List Part) : List Nat := (ps.map (·.l)).flatten
theorem catN_snoc (ps : List Part) (p : Part) : catN (ps ++ [p]) = catN ps ++ p.l := by simp [catN]
structure Parts (w : World) (D : Nat) (A : Option Addr) (ps : List Part) : Prop where
  row : Row w D 1 A ps.length (ps.map Part.val)
  each : ∀ p ∈ ps, Row w D 1 p.A p.n (bytes p.l)
theorem Parts.below {w w' : World} {D : Nat} {A : Option Addr} {ps : List Part} (h : Parts w D A ps) (hb : Below D w w') : Parts w' D A ps := ⟨h.row.below hb, fun p hp => (h.each p hp).below hb⟩
theorem Parts.at_ {w : World} {D : Nat} {A : Option Addr} {ps : List Part} (h : Parts w D A ps) {k : Nat} (hk : k < ps.length) :
    ∃ g o p, A = some ⟨g, o, none⟩ ∧ Hid (ps[k]? = some p) ∧ w.cell? ⟨g, o + k, none⟩ = some (.slice p.A p.n p.c) ∧ Hid (Row w D 1 p.A p.n (bytes p.l)) := by
  obtain ⟨g, o, e1, e2, e3⟩ := h.row.cells (by omega)
  refine ⟨g, o, ps[k], e1, List.getElem?_eq_getElem hk, ?_, h.each _ (List.getElem_mem hk)⟩
  rw [e3 k (by simpa using hk)]
  simp [List.getElem?_eq_getElem hk, Part.val]
theorem Part.len {w : World} {D : Nat} {p : Part} (h : Row w D 1 p.A p.n (bytes p.l)) : p.l.length = p.n := by have := h.len; rw [bytes_len] at this; omega
theorem catN_take_le (ps : List Part) (k : Nat) : (catN (ps.take k)).length ≤ (catN ps).length := by
  have h : catN ps = catN (ps.take k) ++ catN (ps.drop k) := by
    unfold catN
    rw [← List.flatten_append, ← List.map_append, List.take_append_drop]
  rw [h, List.length_append]; omega
def ConcP (w : World) (l : List Nat) (m : Nat) (e : Ending) (w' : World) : Prop := ∃ A c, e = .returned (.slice A m c) ∧ Own w' w.heap.size 5 1 A m c (bytes l) ∧ Below w.heap.size w w'
set_option maxHeartbeats 1000000 in
set_option maxRecDepth 100000 in
theorem concat_any (ps : List Part) (A : Option Addr) (k c m D : Nat) (w : World) (h : Parts w D A ps) (hk : ps.length = k) (hm : (catN ps).length = m) (hD : D ≤ w.heap.size) (hm2 : m ≤ 140737488355000) (hk2 : k ≤ 1000) :
    Calls Tryd.prog 34 #[.slice A k c] w (ConcP w (catN ps) m) := by
  have H := hid h; have HK := hid hk; have HM := hid hm
  clear h hk hm
  go_enter Tryd.func34, Tryd.ntmps34
  go_wp2_with fail
  go_loop [3, 11] (fun v3 v11 => ∃ j : Nat, j ≤ k ∧ v11 = .int .i64 j ∧ v3 = .int .i64 ((catN (ps.take j)).length : Nat)) (fun _ v11 => k - (intOf v11).toNat)
  case atStart => exact ⟨0, Nat.zero_le _, rfl, rfl⟩
  case round =>
    obtain ⟨j, hj, rfl, rfl⟩ := hrel
    have hle := catN_take_le ps j
    by_cases hlt : j < k
    · obtain ⟨g, o, p, rfl, hp, hc, hr⟩ := (unhid H).at_ (k := j) (by rw [HK.out]; exact hlt)
      have hs : Hid (catN (ps.take (j + 1)) = catN (ps.take j) ++ p.l) := by
        show _ = _
        rw [List.take_add_one, hp.out]; exact catN_snoc _ _
      have hle2 := catN_take_le ps (j + 1)
      have hpl := hid (Part.len (unhid hr))
      have hlen : Hid ((catN (ps.take (j + 1))).length = (catN (ps.take j)).length + p.n) := by
        show _ = _
        rw [hs.out, List.length_append, hpl.out]
      have hb1 : (catN (ps.take j)).length + p.n ≤ 140737488355000 := by have := hlen.out; have := HM.out; omega
      obtain ⟨q, hq⟩ : ∃ q, (catN (ps.take j)).length = q := ⟨_, rfl⟩
      rw [hq] at hb1
      have HQ := hid hq
      rw [hq]
      clear hq hle hle2
      have i1 : (0 : Int) ≤ (j : Int) := by omega
      have i2 : (j : Int) < (k : Int) := by omega
      have i3 : ¬ ((q : Int) + (p.n : Int) < 0) := by omega
      go_wp2_with fail
      go_round
      case rel => exact ⟨j + 1, by omega, by go_num, by rw [hlen.out, HQ.out]; go_num⟩
      case measure => simp [intOf]; omega
    · have hjk : j = k := by omega
      subst hjk
      have ht : ps.take j = ps := List.take_of_length_le (by rw [HK.out]; exact Nat.le_refl _)
      rw [ht, HM.out]
      clear ht hle
      go_wp2_with fail
      refine (grow_nil m _ hm2).mono ?_
      rintro e w1 ⟨A1, c1, rfl, o1, b1⟩
      have O1 := hid o1; have B1 := hid b1
      clear o1 b1
      go_wp2_with fail
      go_loopw [6, 27] (fun v6 v27 wr => ∃ (q : Nat) (A2 : Option Addr) (c2 : Nat), q ≤ j ∧ v27 = .int .i64 q ∧ v6 = .slice A2 (catN (ps.take q)).length c2 ∧ Hid (Own wr w.heap.size 5 1 A2 (catN (ps.take q)).length c2 (bytes (catN (ps.take q)))) ∧ Hid (Below w.heap.size w wr)) (fun _ v27 _ => j - (intOf v27).toNat)
      case atStart => exact ⟨0, A1, c1, Nat.zero_le _, rfl, rfl, O1, B1⟩
      case round =>
        obtain ⟨q, A2, c2, hq, rfl, rfl, HO, HE⟩ := hrel
        have hle := catN_take_le ps q
        by_cases hlt : q < j
        · obtain ⟨g, o, p, rfl, hp, hc, hr⟩ := ((unhid H).below ((unhid HE).mono hD)).at_ (k := q) (by rw [HK.out]; exact hlt)
          have hs : Hid (catN (ps.take (q + 1)) = catN (ps.take q) ++ p.l) := by
            show _ = _
            rw [List.take_add_one, hp.out]; exact catN_snoc _ _
          have hle2 := catN_take_le ps (q + 1)
          have hpl := hid (Part.len (unhid hr))
          have hlen : Hid ((catN (ps.take (q + 1))).length = (catN (ps.take q)).length + p.n) := by
            show _ = _
            rw [hs.out, List.length_append, hpl.out]
          have hb1 : (catN (ps.take q)).length + p.n ≤ 140737488355000 := by have := hlen.out; have := HM.out; omega
          obtain ⟨X, hX⟩ : ∃ X, catN (ps.take q) = X := ⟨_, rfl⟩
          rw [hX] at hb1 HO hs hlen
          rw [hX]
          obtain ⟨r, hr0⟩ : ∃ r, X.length = r := ⟨_, rfl⟩
          rw [hr0] at hb1 HO hlen
          rw [hr0]
          have i1 : (0 : Int) ≤ (q : Int) := by omega
          have i2 : (q : Int) < (j : Int) := by omega
          have hsz := (unhid HE).size
          clear hX hr0 hle hle2
          go_wp2_with (at_builtin; refine halt_at (fun K hK => ?_))
          refine go_on hK ?_; clear hK
          refine app_step bytesE rfl (.tmp 31) (.tmp 32) rfl rfl (unhid HO) rfl (unhid hr) (bytes_one _) (by simp [maxLen]; omega) (by omega) (by omega) ?_
          intro A3 c3 w3 o3 g3 l3
          rw [← bytes_append, ← hs.out, ← hlen.out] at o3
          rw [← hlen.out]
          have E3 := hid ((unhid HE).trans (Below.grown (Below.refl _ _) g3 (by omega) (fun q hq => ((unhid HO).from_ q hq).1)))
          have O3 := hid o3
          clear o3 g3 l3 HO
          go_wp2_with fail
          go_roundw
          case rel => exact ⟨q + 1, A3, c3, by omega, by go_num, rfl, O3, E3⟩
          case measure => simp [intOf]; omega
        · have hqj : q = j := by omega
          subst hqj
          have ht : ps.take q = ps := List.take_of_length_le (by rw [HK.out]; exact Nat.le_refl _)
          rw [ht, HM.out] at HO
          rw [ht, HM.out]
          clear ht hle
          go_wp2_with fail
          go_ret
          exact ⟨A2, c2, rfl, unhid HO, unhid HE⟩
end Go.Proofs.YtlaoijnlemgdfaaDoor
