/- The walk of lock.Check: what it tells, as a function of the ops. -/
import Derived.Test.YtibhhbjbfdbmdaaDoorLockW
namespace Go.Mny
open Go.RowKit
/-- x[:j] of an own slice: its block is as it was -/
theorem Own.cut {w : World} {B e s n c j : Nat} {A : Option Addr} {cs : List Value} (h : Own w B e s A n c cs) (hj : j ≤ n) : Own w B e s A j c (cs.take (j * s)) := by
  rcases h.2 with ⟨hv, h0⟩ | ⟨g, cap, cur, hv, hb, hg, hnc, hcm, hcs, ht⟩
  · have hj0 : j = 0 := by omega
    subst hj0
    injection hv with e1 e2 e3
    exact ⟨by simp, .inl ⟨by rw [e1, e3], rfl⟩⟩
  · injection hv with e1 e2 e3
    refine ⟨by rw [List.length_take, h.len]; exact Nat.min_eq_left (Nat.mul_le_mul_right s hj), .inr ⟨g, cap, cur, by rw [e1, e3], hb, hg, by omega, hcm, hcs, ?_⟩⟩
    rw [← ht, List.take_take, Nat.min_eq_left (Nat.mul_le_mul_right s hj)]
theorem cut_own {P : Program} {t e s b : Nat} (E : Elt P t e s b) {w : World} {ops : Array Oper} {rest : List Oper} {o : Oper} {a : Act} {Q : Exit → Act → World → Prop} (hw : Region.wanted o (yielded ops a.tmps) = true)
    (x hi : Operand) (ho : o.op = .slice t x none (some hi) none) {g n c : Nat} (hx : a.eval x = .slice (some ⟨g, 0, none⟩) n c) {kk : IntKind} {j : Nat} (hh : a.eval hi = .int kk (j : Int)) (hj : j ≤ c)
    (k : wpList P ops Q rest (a.put o.dst (.slice (some ⟨g, 0, none⟩) j c)) w) : wpList P ops Q (o :: rest) a w := by
  refine op_step hw fun K hK => ?_
  have hr : (Instr.sliceAt t (.slice (some ⟨g, 0, none⟩) n c) none (some (.int kk (j : Int))) none).run P w = .ok (.slice (some ⟨g, 0, none⟩) j c) w := by
    simp [Instr.sliceAt, Instr.slice, Instr.sliceBounds, Instr.sliceBound, asIntOf, run_underlying E.under, E.sizeE w, Sem.run_bind, Addr.add, hj]
  unfold Oper.wp execOp
  simp only [ho, hx, hh, Sem.run_bind, Sem.run_pure, Result.andThen_ok, Option.map_none, Option.map_some, hr]
  exact hK _ _ k
end Go.Mny
namespace Go.Proofs.YtibhhbjbfdbmdaaDoor
set_option linter.unusedVariables false
open Go.RowKit Go.Mny
/-- the first op that is wrong by itself -/
def bad1 : List OpC → Int
  | [] => 0
  | o :: r => if opN o.op o.n o.len = 0 then bad1 r else opN o.op o.n o.len
/-- the open Ifs behind an op; none: it is out of place -/
def stk (bs : List Bool) (x : Int) : Option (List Bool) :=
  if x = 11 then some (bs ++ [false])
  else if x ≠ 12 ∧ x ≠ 13 then some bs
  else if bs.length = 0 then none
  else if x = 12 then (if bs.getD (bs.length - 1) false = true then none else some (bs.set (bs.length - 1) true))
  else some (bs.take (bs.length - 1))
def run2 : List Bool → List OpC → Int
  | bs, [] => if bs.length = 0 then 0 else 1
  | bs, o :: r => match stk bs o.op with
    | none => 1
    | some b => run2 b r
def lockN (l : List OpC) : Int := if 60 < l.length then 4 else if bad1 l = 0 then run2 [] l else bad1 l
theorem opT : RowT Tryd.prog 54 3 := ⟨⟨_, Tryd.underlying54, rfl⟩, by kernel_rfl⟩
theorem opZ : (Tryd.prog.info? 54).bind (·.zero) = some (.agg (#[.int .i64 0, .int .i64 0, .slice none 0 0] : Array Value)) := by kernel_rfl
theorem op_oc (o : OpC) (w : World) : Calls Tryd.prog 75 #[.agg (oc o).toArray] w fun e w' => e = .returned (errV (opN o.op o.n o.len)) ∧ Below w.heap.size w w' := op_any o.op o.n o.A o.len o.cap w
theorem Row.litBL (w : World) (e : Nat) (b : Bool) : Row (w.alloc (.cells #[.bool b] e)) (w.heap.size + 1) 1 (some ⟨w.heap.size, 0, none⟩) 1 [.bool b] := by
  refine ⟨rfl, fun _ => ⟨w.heap.size, 0, rfl, by omega, fun j _ => ?_⟩⟩
  rw [Nat.zero_add, cell_of_row _ _ j #[.bool b] e (0, 0) (heap_alloc_new w _)]
  simp
theorem one_boolL (b : Bool) : ∀ u ∈ [Value.bool b], u.oneCell' = true := by intro u hu; rw [List.mem_singleton.1 hu]; rfl
theorem drop_get {α : Type} {l : List α} {i : Nat} {x : α} (h : l[i]? = some x) : l.drop i = x :: l.drop (i + 1) := by
  obtain ⟨hi, rfl⟩ := List.getElem?_eq_some_iff.1 h
  exact List.drop_eq_getElem_cons hi
theorem Blk.op0 {w : World} {g e : Nat} {o : OpC} (h : Blk w g e (oc o).toArray) : w.cell? ⟨g, 0, none⟩ = some (.int .i64 o.op) := by rw [h.cell]; rfl
set_option maxHeartbeats 4000000 in
set_option maxRecDepth 100000 in
theorem lock_any (l : List OpC) (A : Option Addr) (n c D : Nat) (w : World) (h : Ops w D A n l) (hD : D ≤ w.heap.size) :
    Calls Tryd.prog 60 #[.slice A n c] w fun e w' => e = .returned (errV (lockN l)) ∧ Below w.heap.size w w' := by
  have hlen := h.len
  have H := hid h
  clear h
  by_cases hbig : 60 < n
  · have E : Hid (lockN l = 4) := by show _ = _; unfold lockN; rw [if_pos (by omega)]
    have i1 : (60 : Int) < (n : Int) := by omega
    clear hlen
    go_enter Tryd.func60, Tryd.ntmps60
    go_wp2_with fail
    go_ret
    exact ⟨by rw [E.out]; rfl, Below.refl _ _⟩
  · have E : Hid (lockN l = if bad1 l = 0 then run2 [] l else bad1 l) := by show _ = _; unfold lockN; rw [if_neg (by omega)]
    have i1 : ¬ ((60 : Int) < (n : Int)) := by omega
    have HLEN := hid hlen
    clear hlen
    go_enter Tryd.func60, Tryd.ntmps60
    go_wp2_with fail
    go_loopw [16] (fun v16 wr => ∃ i : Nat, i ≤ n ∧ v16 = .int .i64 (i : Int) ∧ Hid (bad1 l = bad1 (l.drop i)) ∧ Hid (Below w.heap.size w wr)) (fun v16 _ => n - (intOf v16).toNat)
    case atStart => exact ⟨0, Nat.zero_le _, rfl, rfl, Below.refl _ _⟩
    case round =>
      obtain ⟨i, hi, rfl, HG, HB⟩ := hrel
      have hsz := (unhid HB).size
      by_cases hlt : i < n
      · obtain ⟨g, q, o, rfl, hg, ho, hrg, hok⟩ := ((unhid H).below ((unhid HB).mono hD)).get hlt
        have i2 : (i : Int) < (n : Int) := by omega
        have HN : Hid (bad1 l = if opN o.op o.n o.len = 0 then bad1 (l.drop (i + 1)) else opN o.op o.n o.len) := by
          show _ = _
          rw [HG.out, drop_get ho.out]; rfl
        obtain ⟨wk, hwk⟩ : ∃ wk : World, wk = wr := ⟨_, rfl⟩
        rw [← hwk] at HB hsz hrg
        rw [← hwk]
        clear hwk HG hok
        go_wp2_with (with_reducible refine halt_op (some 19) (.load _ _) (fun K hK => ?_))
        refine go_on hK ?_; clear hK
        refine load_mid opT rfl (.tmp 18) rfl rfl (unhid hrg) (oc_len o) ?_
        go_wp2_with (with_reducible refine halt_op (some 4) (.alloc _) (fun K hK => ?_))
        refine go_on hK ?_; clear hK
        refine alloc_row _ opZ rfl rfl ?_
        rintro g4 w4 hg4 s4 b4 e4
        refine store_row opT (vs := oc o) rfl (.tmp 4) (.tmp 19) rfl rfl rfl (oc_len o) (oc_one o) b4 rfl ?_
        intro w5 b5 g5
        have E5 : Below g4 wk w5 := e4.grown g5 (by omega) (fun q hq => by injection hq with hq; omega)
        have B5 := hid b5
        have HB5 := hid ((unhid HB).trans (E5.mono (by omega)))
        clear b4 e4 hg4 s4 b5 g5 E5 hrg HB
        go_wp2_with (with_reducible refine halt_op (some 20) (.load _ _) (fun K hK => ?_))
        refine go_on hK ?_; clear hK
        refine load_row opT rfl (.tmp 4) rfl rfl (unhid B5) (oc_len o) ?_
        go_wp2_with fail
        refine (op_oc o _).mono ?_
        rintro e w6 ⟨rfl, b6⟩
        have HB6 := hid ((unhid HB5).trans (b6.mono (unhid HB5).size))
        obtain ⟨z, hz⟩ : ∃ z, z = opN o.op o.n o.len := ⟨_, rfl⟩
        rw [← hz] at HN
        rw [← hz]
        clear b6 HB5 B5 hz
        by_cases hz0 : z = 0
        · subst hz0
          have HN2 : Hid (bad1 l = bad1 (l.drop (i + 1))) := by show _ = _; rw [HN.out, if_pos rfl]
          have he : errV 0 = .nilIface := rfl
          rw [he]
          clear he HN
          go_wp2_with fail
          go_roundw
          case rel => exact ⟨i + 1, by omega, by go_num, HN2, HB6⟩
          case measure => simp [intOf]; omega
        · have HN2 : Hid (bad1 l = z) := by show _ = _; rw [HN.out, if_neg hz0]
          have he : errV z = .iface 55 (.int .i64 z) := by unfold errV; rw [if_neg hz0]
          rw [he]
          have HE := hid he
          have HZ := hid hz0
          clear he HN hz0
          go_wp2_with fail
          go_ret
          refine ⟨?_, unhid HB6⟩
          rw [E.out, HN2.out, if_neg HZ.out, HE.out]; rfl
      · have hin : i = n := by omega
        subst hin
        have E2 : Hid (lockN l = run2 [] l) := by
          show _ = _
          have hb : bad1 l = 0 := by rw [HG.out, List.drop_of_length_le (by rw [HLEN.out]; exact Nat.le_refl _)]; rfl
          rw [E.out, if_pos hb]
        clear HG E
        go_wp2_with fail
        go_loopw [28, 6] (fun v28 v6 wr => ∃ (j : Nat) (A2 : Option Addr) (m c2 : Nat) (bs : List Bool), j ≤ i ∧ m ≤ j ∧ v28 = .int .i64 (j : Int) ∧ v6 = .slice A2 m c2 ∧ Hid (Own wr w.heap.size 4 1 A2 m c2 (bv bs)) ∧ Hid (bs.length = m) ∧ Hid (run2 [] l = run2 bs (l.drop j)) ∧ Hid (Below w.heap.size w wr)) (fun v28 _ _ => i - (intOf v28).toNat)
        case atStart => exact ⟨0, none, 0, 0, [], Nat.zero_le _, Nat.zero_le _, rfl, rfl, Own.none _ _ _ _, rfl, rfl, HB⟩
        case round =>
          obtain ⟨j, A2, m, c2, bs, hj, hmj, rfl, rfl, HO, HM, HR, HB⟩ := hrel
          have hsz := (unhid HB).size
          by_cases hlt : j < i
          · obtain ⟨g, q, o, rfl, hg, ho, hrg, hok⟩ := ((unhid H).below ((unhid HB).mono hD)).get hlt
            have i2 : (j : Int) < (i : Int) := by omega
            have HN : Hid (run2 [] l = run2 bs (o :: l.drop (j + 1))) := by
              show _ = _
              rw [HR.out, drop_get ho.out]
            have hml : m ≤ 60 := by omega
            obtain ⟨wk, hwk⟩ : ∃ wk : World, wk = wr := ⟨_, rfl⟩
            rw [← hwk] at HB hsz hrg HO
            rw [← hwk]
            clear hwk HR hok
            go_wp2_with (with_reducible refine halt_op (some 31) (.load _ _) (fun K hK => ?_))
            refine go_on hK ?_; clear hK
            refine load_mid opT rfl (.tmp 30) rfl rfl (unhid hrg) (oc_len o) ?_
            go_wp2_with (with_reducible refine halt_op (some 8) (.alloc _) (fun K hK => ?_))
            refine go_on hK ?_; clear hK
            refine alloc_row _ opZ rfl rfl ?_
            rintro g8 w4 hg8 s4 b4 e4
            refine store_row opT (vs := oc o) rfl (.tmp 8) (.tmp 31) rfl rfl rfl (oc_len o) (oc_one o) b4 rfl ?_
            intro w5 b5 g5
            have E5 : Below g8 wk w5 := e4.grown g5 (by omega) (fun q hq => by injection hq with hq; omega)
            have HO5 := hid ((unhid HO).below E5 (by omega))
            have HB5 := hid ((unhid HB).trans (E5.mono (by omega)))
            have c8 := Blk.op0 b5
            have hs5 := (unhid HB5).size
            clear b4 e4 hg8 s4 b5 g5 E5 hrg HB HO
            obtain ⟨x, hx⟩ : ∃ x, o.op = x := ⟨_, rfl⟩
            rw [hx] at c8
            have HX := hid hx
            clear hx
            by_cases x11 : x = 11
            · subst x11
              have HS : Hid (run2 [] l = run2 (bs ++ [false]) (l.drop (j + 1))) := by
                show _ = _
                rw [HN.out]
                have : stk bs o.op = some (bs ++ [false]) := by rw [HX.out]; unfold stk; rw [if_pos rfl]
                simp only [run2, this]
              go_wp2_with (at_builtin; refine halt_at (fun K hK => ?_))
              refine go_on hK ?_; clear hK
              refine app_step boolsE rfl (.tmp 42) (.tmp 43) rfl rfl ((unhid HO5).alloc _) rfl (Row.litBL w5 _ false) (one_boolL false) (by simp [maxLen]; omega) (by omega) (by simp; omega) ?_
              intro A3 c3 w6 o6 g6 l6
              have O6 : Hid (Own w6 w.heap.size 4 1 A3 (m + 1) c3 (bv (bs ++ [false]))) := by
                show Own _ _ _ _ _ _ _ _
                unfold bv at o6 ⊢
                rw [List.map_append]; exact o6
              have HB6 := hid (Below.grown ((unhid HB5).alloc hs5 _) g6 (by simp; omega) (fun q hq => ((unhid HO5).from_ q hq).1))
              have M6 : Hid ((bs ++ [false]).length = m + 1) := by show _ = _; rw [List.length_append, HM.out]; rfl
              clear o6 g6 l6 HB5 HO5 c8
              go_wp2_with fail
              go_roundw
              case rel => exact ⟨j + 1, A3, m + 1, c3, bs ++ [false], by omega, by omega, by go_num, rfl, O6, M6, HS, HB6⟩
              case measure => simp [intOf]; omega
            · by_cases x12 : x = 12
              · subst x12
                by_cases m0 : m = 0
                · subst m0
                  have HS : Hid (run2 [] l = 1) := by
                    show _ = _
                    rw [HN.out]
                    have : stk bs o.op = none := by rw [HX.out]; unfold stk; rw [if_neg (by decide), if_neg (by simp), if_pos HM.out]
                    simp only [run2, this]
                  go_wp2_with fail
                  go_ret
                  exact ⟨by rw [E2.out, HS.out]; rfl, unhid HB5⟩
                · obtain ⟨gb, curb, rfl, hgb, _⟩ := (unhid HO5).blk (by omega)
                  obtain ⟨t, ht⟩ : ∃ t, t = m - 1 := ⟨_, rfl⟩
                  have htm : t < m := by omega
                  have hti : (m : Int) - 1 = (t : Int) := by omega
                  obtain ⟨b, hb⟩ : ∃ b, bs[t]? = some b := ⟨_, List.getElem?_eq_getElem (by rw [HM.out]; exact htm)⟩
                  have cb : w5.cell? ⟨gb, t, none⟩ = some (.bool b) := by rw [((unhid HO5).get1 htm).1]; unfold bv; rw [List.getElem?_map, hb]; rfl
                  have hbd : bs.getD (bs.length - 1) false = b := by rw [HM.out, ← ht, List.getD_eq_getElem?_getD, hb]; rfl
                  have HBD := hid hbd
                  have HTI := hid hti
                  have HT := hid ht
                  have k1 : (t : Int) < (m : Int) := by omega
                  have k2 : ¬ ((t : Int) < 0) := by omega
                  clear hbd hb ht
                  cases b
                  · have HS : Hid (run2 [] l = run2 (bs.set t true) (l.drop (j + 1))) := by
                      show _ = _
                      rw [HN.out]
                      have : stk bs o.op = some (bs.set t true) := by rw [HX.out]; unfold stk; rw [if_neg (by decide), if_neg (by simp), if_neg (by rw [HM.out]; exact m0), if_pos rfl, HBD.out, HM.out, ← HT.out]; rfl
                      simp only [run2, this]
                    go_wp2_with (with_reducible refine halt_op none (.store _ _ _) (fun K hK => ?_))
                    refine go_on hK ?_; clear hK
                    refine store_own1 (by kernel_rfl) rfl (.tmp 75) (.const (.bool true)) rfl (unhid HO5) htm rfl (v := .bool true) rfl (.inr ⟨true, rfl⟩) ?_
                    intro w6 o6 g6
                    have O6 : Hid (Own w6 w.heap.size 4 1 (some ⟨gb, 0, none⟩) m c2 (bv (bs.set t true))) := by
                      show Own _ _ _ _ _ _ _ _
                      rw [← bv_set]; exact o6
                    have HB6 := hid (Below.grown (unhid HB5) g6 hs5 (fun q hq => by injection hq with hq; omega))
                    have M6 : Hid ((bs.set t true).length = m) := by show _ = _; rw [List.length_set, HM.out]
                    clear o6 g6 HB5 HO5 c8 cb
                    go_wp2_with fail
                    go_roundw
                    case rel => exact ⟨j + 1, _, m, c2, bs.set t true, by omega, by omega, by go_num, rfl, O6, M6, HS, HB6⟩
                    case measure => simp [intOf]; omega
                  · have HS : Hid (run2 [] l = 1) := by
                      show _ = _
                      rw [HN.out]
                      have : stk bs o.op = none := by rw [HX.out]; unfold stk; rw [if_neg (by decide), if_neg (by simp), if_neg (by rw [HM.out]; exact m0), if_pos rfl, HBD.out, if_pos rfl]
                      simp only [run2, this]
                    go_wp2_with fail
                    go_ret
                    exact ⟨by rw [E2.out, HS.out]; rfl, unhid HB5⟩
              · by_cases x13 : x = 13
                · subst x13
                  by_cases m0 : m = 0
                  · subst m0
                    have HS : Hid (run2 [] l = 1) := by
                      show _ = _
                      rw [HN.out]
                      have : stk bs o.op = none := by rw [HX.out]; unfold stk; rw [if_neg (by decide), if_neg (by simp), if_pos HM.out]
                      simp only [run2, this]
                    go_wp2_with fail
                    go_ret
                    exact ⟨by rw [E2.out, HS.out]; rfl, unhid HB5⟩
                  · obtain ⟨gb, curb, rfl, hgb, _, hmc, _⟩ := (unhid HO5).blk (by omega)
                    obtain ⟨t, ht⟩ : ∃ t, t = m - 1 := ⟨_, rfl⟩
                    have htm : t < m := by omega
                    have hti : (m : Int) - 1 = (t : Int) := by omega
                    have k1 : (t : Int) < (m : Int) := by omega
                    have k2 : ¬ ((t : Int) < 0) := by omega
                    have HT := hid ht
                    have HTI := hid hti
                    have HS : Hid (run2 [] l = run2 (bs.take t) (l.drop (j + 1))) := by
                      show _ = _
                      rw [HN.out]
                      have : stk bs o.op = some (bs.take t) := by rw [HX.out]; unfold stk; rw [if_neg (by decide), if_neg (by simp), if_neg (by rw [HM.out]; exact m0), if_neg (by decide), HM.out, ← ht]
                      simp only [run2, this]
                    clear ht
                    go_wp2_with (with_reducible refine halt_op (some 37) (.slice _ _ _ _ _) (fun K hK => ?_))
                    refine go_on hK ?_; clear hK
                    refine cut_own boolsE rfl (.tmp 35) (.tmp 36) rfl rfl (kk := .i64) (j := t) rfl (by omega) ?_
                    have O6 : Hid (Own w5 w.heap.size 4 1 (some ⟨gb, 0, none⟩) t c2 (bv (bs.take t))) := by
                      show Own _ _ _ _ _ _ _ _
                      have := (unhid HO5).cut (j := t) (by omega)
                      rw [Nat.mul_one] at this
                      unfold bv at this ⊢
                      rw [List.map_take]; exact this
                    have M6 : Hid ((bs.take t).length = t) := by show _ = _; rw [List.length_take, HM.out]; omega
                    clear HO5 c8
                    go_wp2_with fail
                    go_roundw
                    case rel => exact ⟨j + 1, _, t, c2, bs.take t, by omega, by omega, by go_num, rfl, O6, M6, HS, HB5⟩
                    case measure => simp [intOf]; omega
                · have HS : Hid (run2 [] l = run2 bs (l.drop (j + 1))) := by
                    show _ = _
                    rw [HN.out]
                    have : stk bs o.op = some bs := by rw [HX.out]; unfold stk; rw [if_neg x11, if_pos ⟨x12, x13⟩]
                    simp only [run2, this]
                  have y11 : (x == 11) = false := by simpa using x11
                  have y12 : (x != 12) = true := by simpa using x12
                  have y13 : (x != 13) = true := by simpa using x13
                  clear x11 x12 x13
                  go_wp2_with fail
                  go_roundw
                  case rel => exact ⟨j + 1, A2, m, c2, bs, by omega, by omega, by go_num, rfl, HO5, HM, HS, HB5⟩
                  case measure => simp [intOf]; omega
          · have hji : j = i := by omega
            subst hji
            have HS : Hid (run2 [] l = if m = 0 then 0 else 1) := by
              show _ = _
              rw [HR.out, List.drop_of_length_le (by rw [HLEN.out]; exact Nat.le_refl _)]
              simp only [run2, HM.out]
            by_cases m0 : m = 0
            · subst m0
              go_wp2_with fail
              go_ret
              exact ⟨by rw [E2.out, HS.out]; rfl, unhid HB⟩
            · have k1 : (0 : Int) < (m : Int) := by omega
              have k2 : 0 < m := by omega
              have HM0 := hid m0
              clear m0
              go_wp2_with fail
              go_ret
              exact ⟨by rw [E2.out, HS.out, if_neg HM0.out]; rfl, unhid HB⟩
end Go.Proofs.YtibhhbjbfdbmdaaDoor
