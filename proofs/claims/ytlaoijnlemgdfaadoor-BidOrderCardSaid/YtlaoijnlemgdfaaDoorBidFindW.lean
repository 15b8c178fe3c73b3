/- The walk of slices.ContainsFunc at bids, with bid.Award's first closure; a new variable of many cells. -/
import Derived.Test.YtlaoijnlemgdfaaDoorBidW
import Derived.Test.YtlaoijnlemgdfaaDoorBuild
namespace Go.Proofs.YtlaoijnlemgdfaaDoor
set_option linter.unusedVariables false
open Go.RowKit Go.Mny
theorem flat_at34 {cs : List Bd} (h : ∀ b ∈ cs, b.salt.length = 32) {i : Nat} {b : Bd} (hb : cs[i]? = some b) : ((cs.map bc).flatten.drop (i * 34)).take 34 = bc b :=
  flat_at (fun l hl => by obtain ⟨b, hb, rfl⟩ := List.mem_map.1 hl; exact bc_len (h b hb)) (by rw [List.getElem?_map, hb]; rfl)
theorem bids_at {w : World} {D n i : Nat} {A : Option Addr} {cs : List Bd} {b : Bd} (h : Row w D 34 A n (cs.map bc).flatten) (hs : ∀ b ∈ cs, b.salt.length = 32) (hi : i < n) (hb : cs[i]? = some b) :
    ∃ g o, A = some ⟨g, o, none⟩ ∧ g < D ∧ Hid (w.rangeAt g (o + i * 34) (bc b)) := by
  obtain ⟨g, o, e1, e2, e3⟩ := h.elem hi
  rw [flat_at34 hs hb] at e3
  exact ⟨g, o, e1, e2, e3⟩
theorem bidsE : Elt Tryd.prog 54 62 34 48 := Elt.of Tryd.underlying54 (.agg (#[.int .i64 0, .int .i64 0] ++ Array.replicate 32 (.int .u8 0))) (by kernel_rfl) (by simp [Value.cells]) (by decide)
/-- a new variable of many cells -/
theorem alloc_row {P : Program} {t n : Nat} {z : Value} (hz : (P.info? t).bind (·.zero) = some z) (hc : z.cells.size = n) {w : World} {ops : Array Oper} {rest : List Oper} {o : Oper} {a : Act} {Q : Exit → Act → World → Prop} (hw : Region.wanted o (yielded ops a.tmps) = true)
    (ho : o.op = .alloc t) (h : ∀ g w2 cur, g = w.heap.size → w2.heap.size = g + 1 → cur.size = n → Blk w2 g t cur → Below g w w2 → wpList P ops Q rest (a.put o.dst (.pointer (some ⟨g, 0, none⟩))) w2) :
    wpList P ops Q (o :: rest) a w := by
  refine op_step hw fun K hK => ?_
  have hr : (Instr.alloc t true (.tuple #[])).run P w = .ok (.pointer (some ⟨w.heap.size, 0, none⟩)) (w.alloc (.cells z.cells t)) := by
    cases hq : P.info? t with
    | none => simp [hq] at hz
    | some i =>
      have hz2 : i.zero = some z := by simpa [hq] using hz
      simp only [Instr.alloc, zeroValue, typeInfo, Sem.run_bind, run_program, Result.andThen_ok, hq, hz2, Sem.run_pure, newVar, newRow]
      rfl
  unfold Oper.wp execOp
  simp only [ho, Sem.run_bind, Sem.run_pure, Result.andThen_ok, hr]
  exact hK _ _ (h _ _ _ rfl (by simp) hc (Blk.new _ _ _) ((Below.refl _ _).alloc (Nat.le_refl _) _))
theorem bidZ : (Tryd.prog.info? 62).bind (·.zero) = some (.agg (#[.int .i64 0, .int .i64 0] ++ Array.replicate 32 (.int .u8 0))) := by kernel_rfl
theorem splice_all {cur : Array Value} {vs : List Value} (h : cur.size = vs.length) : splice cur 0 vs = vs.toArray := by
  unfold splice
  rw [List.take_zero, List.nil_append, List.drop_of_length_le (by simp; omega), List.append_nil]
theorem Blk.rng {w : World} {g e : Nat} {cs : List Value} (h : Blk w g e cs.toArray) : w.rangeAt g 0 cs := fun j v hv => by
  rw [Nat.zero_add, Blk.cell_of h]; exact hv
set_option maxHeartbeats 400000 in
set_option maxRecDepth 100000 in
theorem same_any (c : Bd) (g : Nat) (x : Int) (W : World) (hc : W.cell? ⟨g, 0, none⟩ = some (.int .i64 x)) (hg : g < W.heap.size) :
    Calls Tryd.prog 40 #[.agg (bc c).toArray, .pointer (some ⟨g, 0, none⟩)] W fun e w' => e = .returned (.bool (decide (c.who = x))) ∧ Below W.heap.size W w' := by
  go_enter Tryd.func40, Tryd.ntmps40
  go_wp2_with (with_reducible refine halt_op (some 2) (.box _ _) (fun K hK => ?_))
  refine go_on hK ?_; clear hK
  refine box_row (cs := (bc c).toArray) rfl (.tmp 0) rfl rfl ?_
  rintro g1 w1 hg1 s1 b1 e1
  have c1 : w1.cell? ⟨g1, 0, none⟩ = some (.int .i64 c.who) := by rw [Blk.cell_of b1]; rfl
  have c0 : w1.cell? ⟨g, 0, none⟩ = some (.int .i64 x) := (e1.cell (p := ⟨g, 0, none⟩) (by show g < g1; omega)).trans hc
  have E1 := hid (e1.mono (show W.heap.size ≤ g1 by omega))
  clear b1 e1 hg1 s1 hc
  go_wp2_with fail
  go_ret
  exact ⟨by simp; rfl, unhid E1⟩
set_option maxHeartbeats 1000000 in
set_option maxRecDepth 100000 in
theorem indexf_any (cs : List Bd) (A : Option Addr) (n c D g : Nat) (x : Int) (w : World) (hr : Row w D 34 A n (cs.map bc).flatten) (hs : ∀ b ∈ cs, b.salt.length = 32) (hl : cs.length = n) (hn : n ≤ 1048576) (hD : D ≤ w.heap.size) (hc : w.cell? ⟨g, 0, none⟩ = some (.int .i64 x)) (hg : g < w.heap.size) :
    Calls Tryd.prog 53 #[.slice A n c, .func (.func 40) #[] #[.pointer (some ⟨g, 0, none⟩)]] w fun e w' => (∃ i : Int, e = .returned (.int .i64 i) ∧ -1 ≤ i ∧ (0 ≤ i ↔ ∃ b ∈ cs, b.who = x)) ∧ Below w.heap.size w w' := by
  have HR := hid hr; have HS := hid hs; have HL := hid hl
  have CS : Hid (∀ (b : Bd) (W : World), Below w.heap.size w W → Calls Tryd.prog 40 #[.agg (bc b).toArray, .pointer (some ⟨g, 0, none⟩)] W fun e w' => e = .returned (.bool (decide (b.who = x))) ∧ Below w.heap.size w w') := hid fun b W hW =>
    (same_any b g x W ((hW.cell (p := ⟨g, 0, none⟩) hg).trans hc) (Nat.lt_of_lt_of_le hg hW.size)).mono fun e w' h => ⟨h.1, hW.trans (h.2.mono hW.size)⟩
  clear hr hs hl hc
  go_enter Tryd.func53, Tryd.ntmps53
  go_wp2_with fail
  go_loopw [8] (fun v8 wr => ∃ i : Nat, i ≤ n ∧ v8 = .int .i64 i ∧ Hid (∀ j b, j < i → cs[j]? = some b → b.who ≠ x) ∧ Hid (Below w.heap.size w wr)) (fun v8 _ => n - (intOf v8).toNat)
  case atStart => exact ⟨0, Nat.zero_le _, rfl, hid (fun j b h => absurd h (Nat.not_lt_zero _)), Below.refl _ _⟩
  case round =>
    obtain ⟨i, hi, rfl, HN, HB⟩ := hrel
    by_cases hin : i < n
    · obtain ⟨b, hb⟩ : ∃ b, cs[i]? = some b := ⟨_, List.getElem?_eq_getElem (by rw [HL.out]; exact hin)⟩
      obtain ⟨gr, o, rfl, hgr, HRG⟩ := bids_at ((unhid HR).below ((unhid HB).mono hD)) HS.out hin hb
      have HLb := hid (bc_len (HS.out b (List.mem_of_getElem? hb)))
      have HBB := hid hb
      have i1 : (0 : Int) ≤ (i : Int) := by omega
      have i2 : (i : Int) < (n : Int) := by omega
      clear hb
      go_wp2_with (with_reducible refine halt_op (some 15) (.load _ _) (fun K hK => ?_))
      refine go_on hK ?_; clear hK
      refine load_mid bidT rfl (.tmp 14) rfl rfl (unhid HRG) HLb.out ?_
      by_cases hx : b.who = x
      · have hd : decide (b.who = x) = true := decide_eq_true hx
        have hcall := CS.out b wr (unhid HB)
        rw [hd] at hcall
        have HC := hid hcall
        have HX := hid hx
        clear hx hd hcall
        go_wp2_with fail
        refine (unhid HC).mono ?_
        rintro e w' ⟨rfl, hb'⟩
        have HB' := hid hb'
        clear hb' HC
        go_wp2_with fail
        go_ret
        exact ⟨⟨i, rfl, by omega, ⟨fun _ => ⟨b, List.mem_of_getElem? HBB.out, HX.out⟩, fun _ => i1⟩⟩, unhid HB'⟩
      · have hd : decide (b.who = x) = false := decide_eq_false hx
        have hcall := CS.out b wr (unhid HB)
        rw [hd] at hcall
        have HC := hid hcall
        have HN2 : Hid (∀ j b, j < i + 1 → cs[j]? = some b → b.who ≠ x) := hid fun j b' h h' => by
          by_cases e : j = i
          · rw [e, HBB.out] at h'; injection h' with h'; rw [← h']; exact hx
          · exact HN.out j b' (by omega) h'
        clear hx hd hcall
        go_wp2_with fail
        refine (unhid HC).mono ?_
        rintro e w' ⟨rfl, hb'⟩
        have HB' := hid hb'
        clear hb' HC
        go_wp2_with fail
        go_roundw
        case rel => exact ⟨i + 1, by omega, by go_num, HN2, HB'⟩
        case measure => simp [intOf]; omega
    · have i2 : ¬ (i : Int) < (n : Int) := by omega
      have hno : ¬ ∃ b ∈ cs, b.who = x := fun ⟨b, hb, hx⟩ => by
        obtain ⟨j, hj, rfl⟩ := List.getElem_of_mem hb
        exact HN.out j _ (by have := HL.out; omega) (List.getElem?_eq_getElem hj) hx
      have HNO := hid hno
      clear hno
      go_wp2_with fail
      go_ret
      exact ⟨⟨-1, rfl, by decide, ⟨fun h => absurd h (by decide), fun h => absurd h HNO.out⟩⟩, unhid HB⟩
theorem contf_any (cs : List Bd) (A : Option Addr) (n c D g : Nat) (x : Int) (w : World) (hr : Row w D 34 A n (cs.map bc).flatten) (hs : ∀ b ∈ cs, b.salt.length = 32) (hl : cs.length = n) (hn : n ≤ 1048576) (hD : D ≤ w.heap.size) (hc : w.cell? ⟨g, 0, none⟩ = some (.int .i64 x)) (hg : g < w.heap.size) (r : Bool) (hrr : r = true ↔ ∃ b ∈ cs, b.who = x) :
    Calls Tryd.prog 39 #[.slice A n c, .func (.func 40) #[] #[.pointer (some ⟨g, 0, none⟩)]] w fun e w' => e = .returned (.bool r) ∧ Below w.heap.size w w' := by
  have C := hid (indexf_any cs A n c D g x w hr hs hl hn hD hc hg)
  have HRR := hid hrr
  clear hr hs hl hc hrr
  go_enter Tryd.func39, Tryd.ntmps39
  go_wp2_with fail
  refine (unhid C).mono ?_
  rintro e w' ⟨⟨i, rfl, hi, hx⟩, hb⟩
  have HX := hid hx; have HB := hid hb
  clear hx hb C
  go_wp2_with fail
  go_ret
  refine ⟨?_, unhid HB⟩
  have : decide (0 ≤ i) = r := by
    have h1 := HX.out
    have h2 := HRR.out
    rw [← h2] at h1
    cases r
    · simp at h1; simp; omega
    · simp at h1; simp [h1]
  rw [← this]; rfl
end Go.Proofs.YtlaoijnlemgdfaaDoor
