/- The walk of audit.Fold. -/
import Derived.Test.YtjdffhlbiiefaaaDoorSidesW
import Derived.Test.YtjdffhlbiiefaaaDoorPathW
namespace Go.Mny
open Go.RowKit
theorem alloc_row_wp {P : Program} {t : Nat} (z : Array Value) (hz : (P.info? t).bind (·.zero) = some (.agg z)) {w : World} {o : Oper} {a : Act} {K : Act → World → Prop} {Q : Exit → Act → World → Prop}
    (ho : o.op = .alloc t) (h : ∀ g w2, g = w.heap.size → w2.heap.size = g + 1 → Blk w2 g t z → Below g w w2 → K (a.put o.dst (.pointer (some ⟨g, 0, none⟩))) w2) : o.wp P a w K Q := by
  have hr : (Instr.alloc t true (.tuple #[])).run P w = .ok (.pointer (some ⟨w.heap.size, 0, none⟩)) (w.alloc (.cells z t)) := by
    cases hq : P.info? t with
    | none => simp [hq] at hz
    | some i =>
      have hz2 : i.zero = some (.agg z) := by simpa [hq] using hz
      simp only [Instr.alloc, zeroValue, typeInfo, Sem.run_bind, run_program, Result.andThen_ok, hq, hz2, Sem.run_pure, newVar, newRow, Value.cells]
      rfl
  unfold Oper.wp execOp
  simp only [ho, Sem.run_bind, Sem.run_pure, Result.andThen_ok, hr]
  exact h _ _ rfl (by simp) (Blk.new _ _ _) ((Below.refl _ _).alloc (Nat.le_refl _) _)
end Go.Mny
namespace Go.Proofs.YtjdffhlbiiefaaaDoor
set_option linter.unusedVariables false
set_option linter.unusedSimpArgs false
open Go.RowKit Go.Mny Aud
def foldT (t : Tot) (bs : List Bool) (ps : List Tot) : Tot := Aud.fold ndT t bs ps
theorem totV_agg (t : Tot) : totV t = .agg (tc t).toArray := rfl
theorem fold_take {t : Tot} {bs : List Bool} {ps : List Tot} {k m : Nat} {b : Bool} {p : Tot} (h1 : bs.length = m) (h2 : ps.length = m) (hk : k < m) (hb : bs[k]? = some b) (hp : ps[k]? = some p) :
    foldT t (bs.take (k + 1)) (ps.take (k + 1)) = up1 ndT (foldT t (bs.take k) (ps.take k)) (b, p) := by
  rw [List.take_add_one, List.take_add_one, hb, hp]
  exact fold_snoc ndT t _ _ (by rw [List.length_take, List.length_take, h1, h2]) b p
theorem sum_take_get {ps : List Tot} {k : Nat} {p : Tot} (hp : ps[k]? = some p) : sum (ps.take (k + 1)) = sum (ps.take k) + p.s := by
  rw [List.take_add_one, hp, sum_append]
  simp [sum]
set_option maxHeartbeats 8000000 in
set_option maxRecDepth 100000 in
theorem fold_any (t : Tot) (i n : Nat) (ps : List Tot) (A : Option Addr) (m c D : Nat) (w : World) (hn : n ≤ 256) (hi : i < n) (ht : Ok t) (hp : Tots w D A m ps) (hm : (sides i n).length = m) (hs : t.s + sum ps ≤ 1125899906842624) (hD : D ≤ w.heap.size) (hL : Laid w) (h0 : 0 < w.heap.size) :
    Calls Tryd.prog 8 #[totV t, .int .i64 (i : Int), .int .i64 (n : Int), .slice A m c] w (RetT w (foldT t (sides i n).reverse ps)) := by
  have hmm : m ≤ 255 := by have := sides_len i n; omega
  have hts := ht.1
  have hsp := sum_nonneg hp.oks
  have htm : t.s ≤ 1125899906842624 := by omega
  have HT := hid ht; have HP := hid hp; have HM := hid hm; have HSUM := hid hs; have HL := hid hL
  have j1 : decide ((i : Int) < 0) = false := by simp
  have j2 : decide (n ≤ i) = false := by simp; omega
  have j3 : decide ((n : Int) < 1) = false := by simp; omega
  have j4 : decide ((256 : Int) < (n : Int)) = false := by simp; omega
  clear ht hp hm hs hL hsp
  unfold totV
  go_enter Tryd.func8, Tryd.ntmps8
  go_wp2_with (with_reducible refine halt_op (some 4) (.box _ _) (fun K hK => ?_))
  refine go_on hK ?_; clear hK
  refine box_row (cs := (tc t).toArray) rfl (.tmp 0) rfl rfl ?_
  rintro g4 w1 hg4 s1 b1 e1
  go_wp2_with (with_reducible refine halt_op (some 8) (.alloc _) (fun K hK => ?_))
  refine go_on hK ?_; clear hK
  refine alloc_row _ totZ rfl rfl ?_
  rintro g8 w2 hg8 s2 b2 e2
  have h48 : g4 < g8 := by omega
  have hwg4 : w.heap.size ≤ g4 := by omega
  have h82 : g8 < w2.heap.size := by omega
  have B1 := hid (b1.below e2 h48); have B2 := hid b2
  have E2 := hid ((e1.trans (e2.mono (by omega))).mono hwg4)
  have P2 := hid ((unhid HP).below ((unhid E2).mono hD))
  clear b1 b2 e1 e2 hg4 hg8 s1 s2
  go_wp2_with fail
  refine (sides_any i n _ hi hn).mono ?_
  rintro e w3 ⟨AL, mL, cL, rfl, hlen, oL, b3⟩
  have hmL : mL = m := by rw [← hlen, List.length_reverse]; exact HM.out
  subst hmL
  obtain ⟨bs, hbs⟩ : ∃ bs, bs = (sides i n).reverse := ⟨_, rfl⟩
  rw [← hbs] at hlen oL
  rw [← hbs]
  have HLEN := hid hlen
  have HBS := hid hbs
  have OL := hid oL
  have E3 := hid ((unhid E2).trans (b3.mono (unhid E2).size))
  have B4 := hid ((unhid B1).below b3 (by omega)); have B8 := hid ((unhid B2).below b3 h82)
  have P3 := hid ((unhid P2).below (b3.mono (by have := (unhid E2).size; omega)))
  have h83 : g8 < w3.heap.size := by have := b3.size; omega
  have c4 := Blk.amt (unhid B4)
  have FO := hid (fun k => fold_ok nodeLaw t (bs.take k) (ps.take k) (unhid HT) ((unhid HP).oks.take k) (by rw [List.length_take, List.length_take, HLEN.out, (unhid HP).len]))
  have PLEN := hid (unhid HP).len
  clear hlen oL b3 hbs B1 B2 P2 HM
  go_wp2_with (go_at_call 11; refine (check_ok _ _ hts htm).mono ?_; rintro e w' ⟨rfl, rfl⟩)
  clear c4
  go_loopw [54] (fun v54 wr => ∃ k : Nat, k ≤ mL ∧ v54 = .int .i64 (k : Int) ∧ Hid (Blk wr g4 38 (tc (foldT t (bs.take k) (ps.take k))).toArray) ∧ Hid (Own wr w2.heap.size 4 1 AL mL cL (bv bs)) ∧ Hid (Tots wr D A mL ps) ∧ Hid (Blk wr g8 38 (tc zeroT).toArray) ∧ Hid (Below w.heap.size w wr)) (fun v54 _ => mL - lenI v54)
  case atStart => exact ⟨0, Nat.zero_le _, rfl, B4, OL, P3, B8, E3⟩
  case round =>
    obtain ⟨k, hk, rfl, HB4, HOL, HPS, HB8, HB⟩ := hrel
    have hsz := (unhid HB).size
    have h8r := (unhid HB8).lt'
    by_cases hlt : k < mL
    · obtain ⟨g, o, p, rfl, hg, hpk, _, hrg, hpo, _⟩ := (unhid HPS).get hlt
      obtain ⟨b, hb⟩ : ∃ b, bs[k]? = some b := ⟨_, List.getElem?_eq_getElem (by rw [HLEN.out]; exact hlt)⟩
      obtain ⟨acc, hacc⟩ : ∃ acc, acc = foldT t (bs.take k) (ps.take k) := ⟨_, rfl⟩
      have NX : Hid (foldT t (bs.take (k + 1)) (ps.take (k + 1)) = up1 ndT acc (b, p)) := by show _ = _; rw [hacc]; exact fold_take HLEN.out PLEN.out hlt hb hpk.out
      have AO : Hid (Ok acc) := by rw [hacc]; exact (FO.out k).1
      have PO := hid hpo
      have SUM : Hid (acc.s + p.s ≤ 1125899906842624) := by
        have h1 : acc.s = t.s + sum (ps.take k) := by rw [hacc]; exact (FO.out k).2
        have h2 := sum_take_get hpk.out
        have h3 := sum_take_le (unhid HPS).oks (k + 1)
        have h4 := HSUM.out
        show acc.s + p.s ≤ _
        omega
      obtain ⟨gL, curL, rfl, hgL, _⟩ := (unhid HOL).blk (by omega)
      have hgLr := ((unhid HOL).from_ gL rfl).2
      have cb : wr.cell? ⟨gL, k, none⟩ = some (.bool b) := by rw [((unhid HOL).get1 hlt).1]; unfold bv; rw [List.getElem?_map, hb]; rfl
      rw [← hacc] at HB4
      have i1 : (k : Int) < (mL : Int) := by omega
      have hDw : D ≤ wr.heap.size := by omega
      clear hacc hb hpk hpo
      obtain ⟨wk, hwk⟩ : ∃ wk : World, wk = wr := ⟨_, rfl⟩
      rw [← hwk] at HB4 HOL HPS HB8 HB hsz h8r hgLr hrg cb hDw
      rw [← hwk]
      clear hwk
      go_wp2_with (with_reducible refine halt_op (some 58) (.load _ _) (fun K hK => ?_))
      refine go_on hK ?_; clear hK
      refine load_mid totT rfl (.tmp 57) rfl rfl (unhid hrg) (tc_len (unhid PO).2.1) ?_
      go_wp2_with (with_reducible refine halt_op (some 13) (.alloc _) (fun K hK => ?_))
      refine go_on hK ?_; clear hK
      refine alloc_row _ totZ rfl rfl ?_
      rintro g13 w4 hg13 s4 b4 e4
      have h13 : wk.heap.size ≤ g13 := by omega
      have h134 : g13 < w4.heap.size := b4.lt'
      clear hg13 s4
      go_wp2_with (with_reducible refine halt_op none (.store _ _ _) (fun K hK => ?_))
      refine go_on hK ?_; clear hK
      refine store_row totT (vs := tc p) rfl (.tmp 13) (.tmp 58) rfl rfl rfl (tc_len (unhid PO).2.1) (tc_one _) b4 (by simp [tc, zeroT, bytes, up]) ?_
      intro w5 b5 g5
      have E5 : Below g13 wk w5 := e4.grown g5 (by omega) (fun q hq => by injection hq with hq; omega)
      have h135 : g13 < w5.heap.size := b5.lt'
      have D5 := hid b5
      have C5 := hid ((unhid HB4).below E5 (by omega))
      have Z5 := hid ((unhid HB8).below E5 (by omega))
      have L5 := hid ((unhid HOL).below E5 (by omega))
      have S5 := hid ((unhid HPS).below (E5.mono (by omega)))
      have B5 := hid ((unhid HB).trans (E5.mono (by omega)))
      have cb5 : w5.cell? ⟨gL, k, none⟩ = some (.bool b) := (E5.cell (p := ⟨gL, k, none⟩) (show gL < g13 by omega)).trans cb
      have P13 : Hid (∀ W, Below w5.heap.size w5 W → W.rangeAt g13 0 (tc p)) := fun W h => ((unhid D5).below h h135).rangeL
      have P4 : Hid (∀ W, Below w5.heap.size w5 W → W.rangeAt g4 0 (tc acc)) := fun W h => ((unhid C5).below h (by omega)).rangeL
      have TP := hid (tc_len (unhid PO).2.1); have TA := hid (tc_len (unhid AO).2.1)
      have TZ : Hid ((tc zeroT).toArray.size = 33) := by show _ = _; simp [tc, zeroT, bytes, up]
      clear b4 e4 b5 g5 E5 hrg cb HB4 HB8 HOL HPS HB
      go_wp2_with fail
      refine wp_region_held_drew (S := fun w' => Below w5.heap.size w5 w') (by kernel_rfl) ((Below.refl _ _).drew) (fun hS => ?_)
      refine wpAnyH_take (i := 0) (oi := { dst := some 59, op := Op.load 38 (Operand.tmp 13), type := 38, pos := "audit.go:115", after := #[], guard := none }) (v := totV p) rfl (by kernel_rfl) (by kernel_rfl) (by kernel_rfl) (fun _ _ _ h => h) (yields_row totT rfl (.tmp 13) rfl rfl TP.out (fun w h => P13.out w h)) hS ?_
      try simp only [Act.put, List.setIfInBounds_toArray, List.set_cons_zero, List.set_cons_succ]
      refine wpAnyH_take (i := 1) (oi := { dst := some 60, op := Op.load 38 (Operand.tmp 4), type := 38, pos := "audit.go:115", after := #[{ on := 4, ground := Ground.gcOnly Departure.lateStores }], guard := none }) (v := totV acc) rfl (by kernel_rfl) (by kernel_rfl) (by kernel_rfl) (fun _ _ _ h => h) (yields_row totT rfl (.tmp 4) rfl rfl TA.out (fun w h => P4.out w h)) hS ?_
      try simp only [Act.put, List.setIfInBounds_toArray, List.set_cons_zero, List.set_cons_succ]
      have hbd : Below w5.heap.size w5 w5.drew := (Below.refl _ _).drew
      obtain ⟨w5d, hw5d⟩ : ∃ W, W = w5.drew := ⟨_, rfl⟩
      rw [← hw5d] at hbd
      rw [← hw5d]
      clear hw5d hS
      refine wpAnyH_ready (rs := [2, 3]) (by kernel_rfl) (by simp) ?_
      refine AllReadyH.cons (o := _) rfl (fun K hK => ?oa) (AllReadyH.cons (o := _) rfl (fun K hK => ?ob) AllReadyH.nil)
      case' oa =>
        refine if_step (by kernel_rfl) ?_
        refine alloc_row_wp _ totZ rfl ?_
        rintro gl w6 hgl s6 b6 e6
        have h6 := hbd.trans (e6.mono (by have := hbd.size; omega))
        refine hK.out _ _ h6 (fun _ => ?_)
        refine wpAnyH_ready (rs := [3]) (by kernel_rfl) (by simp) ?_
        refine AllReadyH.cons (o := _) rfl (fun K hK => ?_) AllReadyH.nil
        refine if_step (by kernel_rfl) ?_
        refine alloc_row_wp _ totZ rfl ?_
        rintro gr w7 hgr s7 b7 e7
        have h7 := h6.trans (e7.mono (by have := h6.size; omega))
        have BL := hid (b6.below e7 (by omega)); have BR := hid b7
        have hlr : gl ≠ gr := by omega
        have hl5 : w5.heap.size ≤ gl := by have := hbd.size; omega
        have hr5 : w5.heap.size ≤ gr := by have := hbd.size; omega
        clear b6 e6 hgl s6 b7 e7 hgr s7 h6
        refine hK.out _ _ h7 (fun _ => ?_)
      case' ob =>
        refine if_step (by kernel_rfl) ?_
        refine alloc_row_wp _ totZ rfl ?_
        rintro gr w6 hgr s6 b6 e6
        have h6 := hbd.trans (e6.mono (by have := hbd.size; omega))
        refine hK.out _ _ h6 (fun _ => ?_)
        refine wpAnyH_ready (rs := [2]) (by kernel_rfl) (by simp) ?_
        refine AllReadyH.cons (o := _) rfl (fun K hK => ?_) AllReadyH.nil
        refine if_step (by kernel_rfl) ?_
        refine alloc_row_wp _ totZ rfl ?_
        rintro gl w7 hgl s7 b7 e7
        have h7 := h6.trans (e7.mono (by have := h6.size; omega))
        have BR := hid (b6.below e7 (by omega)); have BL := hid b7
        have hlr : gl ≠ gr := by omega
        have hl5 : w5.heap.size ≤ gl := by have := hbd.size; omega
        have hr5 : w5.heap.size ≤ gr := by have := hbd.size; omega
        clear b6 e6 hgl s6 b7 e7 hgr s7 h6
        refine hK.out _ _ h7 (fun _ => ?_)
      all_goals
        refine wpAnyH_ready (rs := [4]) (by kernel_rfl) (by simp) ?_
        refine AllReadyH.cons (o := _) rfl (fun K hK => ?_) AllReadyH.nil
        refine if_step (by kernel_rfl) ?_
        refine store_row_wp totT (vs := tc p) (.tmp 14) (.tmp 59) rfl rfl rfl TP.out (tc_one _) (unhid BL) TZ.out ?_
        intro w8 b8 g8'
        have h8 : Below w5.heap.size w5 w8 := h7.grown g8' (by have := h7.size; omega) (fun q hq => by injection hq with hq; omega)
        have BR := hid ((unhid BR).grown g8' (fun h => hlr (by injection h)))
        have BL := hid b8
        clear b8 g8' h7
        refine hK.out _ _ h8 (fun _ => ?_)
        refine wpAnyH_ready (rs := [5]) (by kernel_rfl) (by simp) ?_
        refine AllReadyH.cons (o := _) rfl (fun K hK => ?_) AllReadyH.nil
        refine if_step (by kernel_rfl) ?_
        refine store_row_wp totT (vs := tc acc) (.tmp 15) (.tmp 60) rfl rfl rfl TA.out (tc_one _) (unhid BR) TZ.out ?_
        intro w9 b9 g9
        have h9 : Below w5.heap.size w5 w9 := h8.grown g9 (by have := h8.size; omega) (fun q hq => by injection hq with hq; omega)
        have BL := hid ((unhid BL).grown g9 (fun h => hlr (by injection h with h; exact h.symm)))
        have BR := hid b9
        clear b9 g9 h8
        refine hK.out _ _ h9 (fun _ => ?_)
        refine wpAnyH_done (by kernel_rfl) ?_ _
        have cb9 : w9.cell? ⟨gL, k, none⟩ = some (.bool b) := (h9.cell (p := ⟨gL, k, none⟩) (show gL < w5.heap.size by omega)).trans cb5
        have C9 := hid ((unhid C5).below h9 (by omega))
        have D9 := hid ((unhid D5).below h9 h135)
        have Z9 := hid ((unhid Z5).below h9 (by omega))
        have L9 := hid ((unhid L5).below h9 (Nat.le_refl _))
        have S9 := hid ((unhid S5).below (h9.mono (by omega)))
        have B9 := hid ((unhid B5).trans (h9.mono (by have := (unhid B5).size; omega)))
        have hl9 := (unhid BL).lt'
        have hr9 := (unhid BR).lt'
        have h49 : g4 < w9.heap.size := by have := h9.size; omega
        have h139 : g13 < w9.heap.size := by have := h9.size; omega
        clear h9 cb5 C5 D5 Z5 L5 S5 B5 P13 P4
        cases b
        case' false =>
          go_wp2_with (with_reducible refine halt_op (some 68) (.load _ _) (fun K hK => ?_))
          refine go_on hK ?_; clear hK
          refine load_row totT rfl (.tmp 14) rfl rfl (unhid BL) TP.out ?_
          refine load_row totT rfl (.tmp 15) rfl rfl (unhid BR) TA.out ?_
          go_wp2_with fail
          refine (node_any p acc _ (unhid PO) (unhid AO) (by have := SUM.out; omega) ((unhid HL).below (unhid B9) h0) (by have := (unhid B9).size; omega)).mono ?_
          have NY : Hid (foldT t (bs.take (k + 1)) (ps.take (k + 1)) = ndT p acc) := NX
          obtain ⟨nx, hnx⟩ : ∃ nx, nx = ndT p acc := ⟨_, rfl⟩
          have NL : Hid ((tc nx).length = 33) := by rw [hnx]; exact tc_len (Sh2.sum_len _)
        case' true =>
          go_wp2_with fail
          refine wp_region_held_drew (S := fun w' => Blk w' g4 38 (tc acc).toArray ∧ Blk w' g13 38 (tc p).toArray) (by kernel_rfl) ⟨(unhid C9).drew, (unhid D9).drew⟩ (fun hS => ?_)
          refine wpAnyH_take (i := 0) (oi := { dst := some 65, op := Op.load 38 (Operand.tmp 4), type := 38, pos := "audit.go:117", after := #[], guard := none }) (v := totV acc) rfl (by kernel_rfl) (by kernel_rfl) (by kernel_rfl) (fun _ _ _ h => h) (yields_row totT rfl (.tmp 4) rfl rfl TA.out (fun w h => h.1.rangeL)) hS ?_
          try simp only [Act.put, List.setIfInBounds_toArray, List.set_cons_zero, List.set_cons_succ]
          refine wpAnyH_take (i := 1) (oi := { dst := some 66, op := Op.load 38 (Operand.tmp 13), type := 38, pos := "audit.go:117", after := #[{ on := 2, ground := Ground.gcOnly Departure.lateStores }], guard := none }) (v := totV p) rfl (by kernel_rfl) (by kernel_rfl) (by kernel_rfl) (fun _ _ _ h => h) (yields_row totT rfl (.tmp 13) rfl rfl TP.out (fun w h => h.2.rangeL)) hS ?_
          try simp only [Act.put, List.setIfInBounds_toArray, List.set_cons_zero, List.set_cons_succ]
          refine wpAnyH_ready (rs := [2]) (by kernel_rfl) (by simp) ?_
          refine AllReadyH.cons (o := _) rfl (fun K hK => ?_) AllReadyH.nil
          refine if_step (by kernel_rfl) ?_
          refine store_row_wp totT (vs := tc acc) (.tmp 14) (.tmp 65) rfl rfl rfl TA.out (tc_one _) (unhid BL).drew (by rw [List.size_toArray, TP.out]) ?_
          intro wa ba ga
          have E9 : Below w5.heap.size w9 wa := ((Below.refl _ _).drew).grown ga (by show w5.heap.size ≤ w9.heap.size; omega) (fun q hq => by injection hq with hq; omega)
          have BR := hid ((unhid BR).drew.grown ga (fun h => hlr (by injection h)))
          have BL := hid ba
          have Sa := hid (And.intro ((unhid C9).below E9 (by omega)) ((unhid D9).below E9 h135))
          clear ba ga
          refine hK.out _ _ (unhid Sa) (fun _ => ?_)
          refine wpAnyH_ready (rs := [3]) (by kernel_rfl) (by simp) ?_
          refine AllReadyH.cons (o := _) rfl (fun K hK => ?_) AllReadyH.nil
          refine if_step (by kernel_rfl) ?_
          refine store_row_wp totT (vs := tc p) (.tmp 15) (.tmp 66) rfl rfl rfl TP.out (tc_one _) (unhid BR) (by rw [List.size_toArray, TA.out]) ?_
          intro wb bb gb
          have Eb : Below w5.heap.size w9 wb := E9.grown gb (by have := E9.size; omega) (fun q hq => by injection hq with hq; omega)
          have BL := hid ((unhid BL).grown gb (fun h => hlr (by injection h with h; exact h.symm)))
          have BR := hid bb
          have Sb := hid (And.intro ((unhid C9).below Eb (by omega)) ((unhid D9).below Eb h135))
          clear bb gb E9 Sa
          refine hK.out _ _ (unhid Sb) (fun _ => ?_)
          refine wpAnyH_done (by kernel_rfl) ?_ _
          have C9 := hid (unhid Sb).1
          have Z9 := hid ((unhid Z9).below Eb (by omega))
          have L9 := hid ((unhid L9).below' Eb (show gL < w5.heap.size by omega))
          have S9 := hid ((unhid S9).below (Eb.mono (by omega)))
          have B9 := hid ((unhid B9).trans (Eb.mono (by omega)))
          have h49 : g4 < wb.heap.size := by have := Eb.size; omega
          have h59 : w9.heap.size ≤ wb.heap.size := Eb.size
          clear Eb Sb D9 cb9
          go_wp2_with (with_reducible refine halt_op (some 68) (.load _ _) (fun K hK => ?_))
          refine go_on hK ?_; clear hK
          refine load_row totT rfl (.tmp 14) rfl rfl (unhid BL) TA.out ?_
          refine load_row totT rfl (.tmp 15) rfl rfl (unhid BR) TP.out ?_
          go_wp2_with fail
          refine (node_any acc p _ (unhid AO) (unhid PO) SUM.out ((unhid HL).below (unhid B9) h0) (by have := (unhid B9).size; omega)).mono ?_
          have NY : Hid (foldT t (bs.take (k + 1)) (ps.take (k + 1)) = ndT acc p) := NX
          obtain ⟨nx, hnx⟩ : ∃ nx, nx = ndT acc p := ⟨_, rfl⟩
          have NL : Hid ((tc nx).length = 33) := by rw [hnx]; exact tc_len (Sh2.sum_len _)
        all_goals
          rw [← hnx] at NY
          rw [← hnx]
          clear hnx
          rintro e wc ⟨rfl, hc⟩
          have Cc := hid ((unhid C9).below hc h49)
          have Zc := hid ((unhid Z9).below hc (by omega))
          have Lc := hid ((unhid L9).below hc (by omega))
          have Sc := hid ((unhid S9).below (hc.mono (by omega)))
          have Bc := hid ((unhid B9).trans (hc.mono (by have := (unhid B9).size; omega)))
          have hsc := hc.size
          clear hc C9 Z9 L9 S9 B9 BL BR
          go_wp2_with (with_reducible refine halt_op (some 16) (.alloc _) (fun K hK => ?_))
          refine go_on hK ?_; clear hK
          refine alloc_row _ totZ rfl rfl ?_
          rintro g16 wd hg16 sd bd ed
          refine store_row totT (vs := tc nx) rfl (.tmp 16) (.tmp 71) rfl rfl rfl NL.out (tc_one _) bd TZ.out ?_
          intro we be ge
          have Ee : Below g16 wc we := ed.grown ge (by omega) (fun q hq => by injection hq with hq; omega)
          have Be16 := hid be
          have h16 : wc.heap.size ≤ g16 := by omega
          have h16e : g16 < we.heap.size := be.lt'
          have Ce := hid ((unhid Cc).below Ee (by omega))
          have Ze := hid ((unhid Zc).below Ee (by omega))
          have Le := hid ((unhid Lc).below Ee (by omega))
          have Se := hid ((unhid Sc).below (Ee.mono (by omega)))
          have Bee := hid ((unhid Bc).trans (Ee.mono (by omega)))
          clear bd ed hg16 sd be ge Ee Cc Zc Lc Sc Bc
          go_wp2_with (with_reducible refine halt_op (some 77) (.load _ _) (fun K hK => ?_))
          refine go_on hK ?_; clear hK
          refine load_row totT rfl (.tmp 16) rfl rfl (unhid Be16) NL.out ?_
          refine store_row totT (vs := tc nx) rfl (.tmp 4) (.tmp 77) rfl rfl rfl NL.out (tc_one _) (unhid Ce) (by rw [List.size_toArray, TA.out]) ?_
          intro wf bf gf
          have Ef : Below g4 we wf := (Below.refl _ _).grown gf (by omega) (fun q hq => by injection hq with hq; omega)
          have Bf : Hid (Blk wf g4 38 (tc (foldT t (bs.take (k + 1)) (ps.take (k + 1)))).toArray) := by rw [NY.out]; exact bf
          have Zf := hid ((unhid Ze).grown gf (fun h => by injection h with h; omega))
          have Lf := hid ((unhid Le).keep (fun q hq => gf.block q (by have hq2 : gL = q := Option.some.inj hq; omega) (fun h => by have hq2 : gL = q := Option.some.inj hq; have h2 : q = g4 := Option.some.inj h; omega)))
          have Sf := hid ((unhid Se).below (Ef.mono (by omega)))
          have Bff := hid ((unhid Bee).trans (Ef.mono hwg4))
          clear bf gf Ef Ze Le Se Bee Ce Be16
          go_wp2_with fail
          go_roundw
          case rel => exact ⟨k + 1, by omega, by go_num, Bf, Lf, Sf, Zf, Bff⟩
          case measure => simp [lenI, intOf]; omega
    · have hkm : k = mL := by omega
      subst hkm
      have i1 : ¬ ((k : Int) < (k : Int)) := by omega
      have E : Hid (foldT t (bs.take k) (ps.take k) = foldT t bs ps) := by
        show _ = _
        rw [List.take_of_length_le (by rw [HLEN.out]; exact Nat.le_refl _), List.take_of_length_le (by rw [PLEN.out]; exact Nat.le_refl _)]
      have FL : Hid ((tc (foldT t bs ps)).length = 33) := by
        rw [← E.out]; exact tc_len (FO.out k).1.2.1
      rw [E.out] at HB4
      go_wp2_with (with_reducible refine halt_op (some 79) (.load _ _) (fun K hK => ?_))
      refine go_on hK ?_; clear hK
      refine load_row totT rfl (.tmp 4) rfl rfl (unhid HB4) FL.out ?_
      refine store_row totT (vs := tc (foldT t bs ps)) rfl (.tmp 8) (.tmp 79) rfl rfl rfl FL.out (tc_one _) (unhid HB8) (by simp [tc, zeroT, bytes, up]) ?_
      intro wA bA gA
      have BA := hid bA
      have EA := hid ((unhid HB).grown gA hsz (fun q hq => by injection hq with hq; omega))
      clear bA gA
      go_wp2_with fail
      exact bodyPost_ret (results_row_tmp rfl _ _ g8 _ (tc (foldT t bs ps)).toArray (0, 0) _ rfl (unhid BA) Tryd.underlying38 rfl (by rw [List.size_toArray, FL.out]; exact totT.size)) rfl (RetT.of ⟨rfl, unhid EA⟩ (by rw [HBS.out]))
end Go.Proofs.YtjdffhlbiiefaaaDoor
