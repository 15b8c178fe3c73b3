/- The walk of coin.Check: what it tells, as a function of the coins. -/
import Derived.Test.YtibhhbjbfdbmdaaDoorLockCW
import Derived.Test.YtibhhbjbfdbmdaaDoorCompareW
import Derived.IntWalk
namespace Go.Proofs.YtibhhbjbfdbmdaaDoor
set_option linter.unusedVariables false
set_option linter.unusedSimpArgs false
open Go.RowKit Go.Mny
def ahead : Option CoC → CoC → Bool
  | some p, c => decide (0 ≤ placeN p.tx p.at_ c.tx c.at_)
  | none, _ => false
def stepC (p : Option CoC) (c : CoC) : Int :=
  if ahead p c = true then 6
  else if c.at_ < 0 ∨ 40 ≤ c.at_ ∨ c.h < 0 ∨ 1073741824 < c.h then 2
  else if c.amt < 0 ∨ 1125899906842624 < c.amt then 2
  else lockN c.ops
def goC : Option CoC → List CoC → Int
  | _, [] => 0
  | p, c :: r => if stepC p c = 0 then goC (some c) r else stepC p c
def checkN (l : List CoC) : Int := if 1000 < l.length then 4 else goC none l
def prevC (l : List CoC) (i : Nat) : Option CoC := if i = 0 then none else l[i - 1]?
theorem goC_at {l : List CoC} {i : Nat} {c : CoC} (h : l[i]? = some c) : goC (prevC l i) (l.drop i) = if stepC (prevC l i) c = 0 then goC (prevC l (i + 1)) (l.drop (i + 1)) else stepC (prevC l i) c := by
  have e : prevC l (i + 1) = some c := by unfold prevC; rw [if_neg (by omega)]; exact h
  rw [drop_get h, e]; rfl
theorem goC_good : ∀ (l : List CoC) (p : Option CoC), goC p l = 0 → ∀ c ∈ l, 0 ≤ c.amt ∧ c.amt ≤ 1125899906842624
  | [], _, _, c, hc => absurd hc List.not_mem_nil
  | x :: r, p, h, c, hc => by
    have h0 : stepC p x = 0 := by
      unfold goC at h
      split at h
      · assumption
      · exact h
    have hr : goC (some x) r = 0 := by
      unfold goC at h
      rw [if_pos h0] at h; exact h
    rcases List.mem_cons.1 hc with rfl | hc
    · unfold stepC at h0
      split at h0
      · cases h0
      · split at h0
        · cases h0
        · split at h0
          · cases h0
          · omega
    · exact goC_good r (some x) hr c hc
theorem checkN_good {l : List CoC} (h : checkN l = 0) : l.length ≤ 1000 ∧ ∀ c ∈ l, 0 ≤ c.amt ∧ c.amt ≤ 1125899906842624 := by
  unfold checkN at h
  split at h
  · cases h
  · exact ⟨by omega, goC_good l none h⟩
theorem coinT : RowT Tryd.prog 86 36 := ⟨⟨_, Tryd.underlying86, rfl⟩, by kernel_rfl⟩
theorem placeT : RowT Tryd.prog 84 33 := ⟨⟨_, Tryd.underlying84, rfl⟩, by kernel_rfl⟩
def coinZ : Array Value := (coc ⟨List.replicate 32 0, 0, 0, none, 0, 0, [], 0⟩).toArray
theorem coinZ_is : (Tryd.prog.info? 86).bind (·.zero) = some (.agg coinZ) := by kernel_rfl
theorem coinZ_size : coinZ.size = 36 := by simp [coinZ, coc, bytes, up]
theorem coc_eq (c : CoC) : coc c = plc c.tx c.at_ ++ [.int .i64 c.amt, .slice c.A c.len c.cap, .int .i64 c.h] := by simp [coc, plc]
theorem plc_len {tx : List Nat} {x : Int} (h : tx.length = 32) : (plc tx x).length = 33 := by simp [plc, bytes, up, h]
theorem range_place {w : World} {g o : Nat} {c : CoC} (h : w.rangeAt g o (coc c)) : w.rangeAt g o (plc c.tx c.at_) := fun j v hv => by
  refine h j v ?_
  rw [coc_eq, List.getElem?_append_left (List.getElem?_eq_some_iff.1 hv).1]; exact hv
theorem coin_cells {w : World} {g o : Nat} {c : CoC} (h : w.rangeAt g o (coc c)) (hd : c.tx.length = 32) : w.cell? ⟨g, o + 32, none⟩ = some (.int .i64 c.at_) ∧ w.cell? ⟨g, o + 33, none⟩ = some (.int .i64 c.amt) ∧ w.cell? ⟨g, o + 34, none⟩ = some (.slice c.A c.len c.cap) ∧ w.cell? ⟨g, o + 35, none⟩ = some (.int .i64 c.h) := by
  have hb : (bytes c.tx).length = 32 := by rw [bytes_len, hd]
  refine ⟨h 32 _ ?_, h 33 _ ?_, h 34 _ ?_, h 35 _ ?_⟩ <;> (unfold coc; rw [List.getElem?_append_right (by omega), hb]; rfl)
theorem coin_cells0 {w : World} {g : Nat} {c : CoC} (h : w.rangeAt g 0 (coc c)) (hd : c.tx.length = 32) : w.cell? ⟨g, 32, none⟩ = some (.int .i64 c.at_) ∧ w.cell? ⟨g, 33, none⟩ = some (.int .i64 c.amt) ∧ w.cell? ⟨g, 34, none⟩ = some (.slice c.A c.len c.cap) ∧ w.cell? ⟨g, 35, none⟩ = some (.int .i64 c.h) := by
  have := coin_cells h hd
  simpa using this
theorem placeV_eq (tx : List Nat) (x : Int) : placeV tx x = .agg (plc tx x).toArray := rfl
set_option maxHeartbeats 8000000 in
set_option maxRecDepth 100000 in
theorem check_any (l : List CoC) (A : Option Addr) (n c D : Nat) (w : World) (h : Coins w D A n l) (hD : D ≤ w.heap.size) :
    Calls Tryd.prog 38 #[.slice A n c] w fun e w' => e = .returned (errV (checkN l)) ∧ Below w.heap.size w w' := by
  have hlen := h.len
  have H := hid h
  clear h
  by_cases hbig : 1000 < n
  · have E : Hid (checkN l = 4) := by show _ = _; unfold checkN; rw [if_pos (by omega)]
    have i1 : decide ((1000 : Int) < (n : Int)) = true := by simp; omega
    clear hlen
    go_enter Tryd.func38, Tryd.ntmps38
    go_wp2_with fail
    go_ret
    exact ⟨by rw [E.out]; rfl, Below.refl _ _⟩
  · have E : Hid (checkN l = goC none l) := by show _ = _; unfold checkN; rw [if_neg (by omega)]
    have i1 : decide ((1000 : Int) < (n : Int)) = false := by simp; omega
    have HLEN := hid hlen
    clear hlen
    go_enter Tryd.func38, Tryd.ntmps38
    go_wp2_with fail
    go_loopw [13] (fun v13 wr => ∃ i : Nat, i ≤ n ∧ v13 = .int .i64 (i : Int) ∧ Hid (goC none l = goC (prevC l i) (l.drop i)) ∧ Hid (Below w.heap.size w wr)) (fun v13 _ => n - (intOf v13).toNat)
    case atStart => exact ⟨0, Nat.zero_le _, rfl, rfl, Below.refl _ _⟩
    case round =>
      obtain ⟨i, hi, rfl, HG, HB⟩ := hrel
      have hsz := (unhid HB).size
      by_cases hlt : i < n
      · obtain ⟨g, q, x, rfl, hg, hx, hrg, hok⟩ := ((unhid H).below ((unhid HB).mono hD)).get hlt
        have i2 : (i : Int) < (n : Int) := by omega
        have HN : Hid (goC none l = if stepC (prevC l i) x = 0 then goC (prevC l (i + 1)) (l.drop (i + 1)) else stepC (prevC l i) x) := by
          show _ = _
          rw [HG.out, goC_at hx.out]
        have TXL := hid (unhid hok).tx
        have CL := hid (coc_len (unhid hok).tx)
        have PL := hid (plc_len (x := x.at_) (unhid hok).tx)
        have OPS := hid (unhid hok).ops
        obtain ⟨wk, hwk⟩ : ∃ wk : World, wk = wr := ⟨_, rfl⟩
        rw [← hwk] at HB hsz hrg OPS
        rw [← hwk]
        clear hwk HG hok
        go_wp2_with (with_reducible refine halt_op (some 17) (.load _ _) (fun K hK => ?_))
        refine go_on hK ?_; clear hK
        refine load_mid coinT rfl (.tmp 16) rfl rfl (unhid hrg) CL.out ?_
        go_wp2_with (with_reducible refine halt_op (some 4) (.alloc _) (fun K hK => ?_))
        refine go_on hK ?_; clear hK
        refine alloc_row _ coinZ_is rfl rfl ?_
        rintro g4 w4 hg4 s4 b4 e4
        have h4 : wk.heap.size ≤ g4 := by omega
        have h44 : g4 < w4.heap.size := b4.lt'
        clear hg4 s4
        go_wp2_with (with_reducible refine halt_op none (.store _ _ _) (fun K hK => ?_))
        refine go_on hK ?_; clear hK
        refine store_row coinT (vs := coc x) rfl (.tmp 4) (.tmp 17) rfl rfl rfl CL.out (coc_one x) b4 coinZ_size ?_
        intro w5 b5 g5
        have E5 : Below g4 wk w5 := e4.grown g5 (by omega) (fun q hq => by injection hq with hq; omega)
        have B5 := hid b5
        have h45 : g4 < w5.heap.size := b5.lt'
        have HB5 := hid ((unhid HB).trans (E5.mono (by omega)))
        have RG5 := hid (b5.rangeL)
        have OPS5 := hid ((unhid OPS).below (E5.mono (by omega)))
        have hs5 := (unhid HB5).size
        have HK5 : Hid (∀ m p, l[m]? = some p → ∀ W, Below w5.heap.size w5 W → W.rangeAt g (q + m * 36) (plc p.tx p.at_)) := hid fun m p hp W hW => by
          have hm : m < n := by rw [← HLEN.out]; exact (List.getElem?_eq_some_iff.1 hp).1
          have hbw := (unhid HB5).trans (hW.mono hs5)
          obtain ⟨g', q', p', e1, _, hp', hr', _⟩ := ((unhid H).below (hbw.mono hD)).get hm
          injection e1 with e1
          injection e1 with e1 e2
          subst e1; subst e2
          have : p' = p := Option.some.inj (hp'.out.symm.trans hp)
          subst this
          exact range_place hr'.out
        clear b4 e4 b5 g5 E5 hrg HB OPS hsz
        by_cases hi0 : i = 0
        case' pos =>
          have HA : Hid (ahead (prevC l i) x = false) := by show _ = _; unfold prevC; rw [if_pos hi0]; rfl
          have t0 : decide ((0 : Int) < (i : Int)) = false := by simp; omega
          have t1 : decide (0 < i) = false := by simp; omega
          clear hi0
          go_wp2_with fail
          refine wp_region_held_drew (S := fun w' => Below w5.heap.size w5 w') (by kernel_rfl) ((Below.refl _ _).drew) (fun hS => ?_)
          refine wpAnyH_take (i := 0) (oi := { dst := some 19, op := Op.move (Operand.tmp 3), type := 3, pos := "coin.go:27", after := #[], guard := none }) (v := .int .i64 (i : Int)) rfl (by kernel_rfl) (by kernel_rfl) (by kernel_rfl) (fun _ _ _ h => h) (yields_of rfl (fun w => by go_simp)) hS ?_
          try simp only [Act.put, List.setIfInBounds_toArray, List.set_cons_zero, List.set_cons_succ]
          refine wpAnyH_take (i := 1) (oi := { dst := some 20, op := Op.binOp BinOp.gtr 3 (Operand.tmp 19) (Operand.const (Value.int IntKind.i64 0)) 3, type := 4, pos := "coin.go:27", after := #[{ on := 0, ground := Ground.data }], guard := none }) (v := .bool false) rfl (by kernel_rfl) (by kernel_rfl) (by kernel_rfl) (fun _ _ _ h => h) (yields_of rfl (fun w => by go_simp)) hS ?_
          try simp only [Act.put, List.setIfInBounds_toArray, List.set_cons_zero, List.set_cons_succ]
          refine wpAnyH_take (i := 2) (oi := { dst := some 21, op := Op.move (Operand.tmp 20), type := 4, pos := "coin.go:27", after := #[{ on := 1, ground := Ground.data }], guard := none }) (v := .bool false) rfl (by kernel_rfl) (by kernel_rfl) (by kernel_rfl) (fun _ _ _ h => h) (yields_of rfl (fun w => by go_simp)) hS ?_
          try simp only [Act.put, List.setIfInBounds_toArray, List.set_cons_zero, List.set_cons_succ]
          refine wpAnyH_take (i := 3) (oi := { dst := some 22, op := Op.move (Operand.tmp 0), type := 26, pos := "coin.go:27", after := #[{ on := 2, ground := Ground.guard }], guard := some (2, true) }) (v := undef) rfl (by kernel_rfl) (by kernel_rfl) (by kernel_rfl) (fun _ _ _ h => h) (.inr ⟨rfl, rfl⟩) hS ?_
          try simp only [Act.put, List.setIfInBounds_toArray, List.set_cons_zero, List.set_cons_succ]
          refine wpAnyH_take (i := 4) (oi := { dst := some 23, op := Op.move (Operand.tmp 3), type := 3, pos := "coin.go:27", after := #[{ on := 2, ground := Ground.guard }], guard := some (2, true) }) (v := undef) rfl (by kernel_rfl) (by kernel_rfl) (by kernel_rfl) (fun _ _ _ h => h) (.inr ⟨rfl, rfl⟩) hS ?_
          try simp only [Act.put, List.setIfInBounds_toArray, List.set_cons_zero, List.set_cons_succ]
          refine wpAnyH_take (i := 5) (oi := { dst := some 24, op := Op.binOp BinOp.sub 3 (Operand.tmp 23) (Operand.const (Value.int IntKind.i64 1)) 3, type := 3, pos := "coin.go:27", after := #[{ on := 4, ground := Ground.data }, { on := 2, ground := Ground.guard }], guard := some (2, true) }) (v := undef) rfl (by kernel_rfl) (by kernel_rfl) (by kernel_rfl) (fun _ _ _ h => h) (.inr ⟨rfl, rfl⟩) hS ?_
          try simp only [Act.put, List.setIfInBounds_toArray, List.set_cons_zero, List.set_cons_succ]
          refine wpAnyH_take (i := 6) (oi := { dst := some 25, op := Op.indexAddr 26 (Operand.tmp 22) (Operand.tmp 24), type := 0, pos := "coin.go:27", after := #[{ on := 3, ground := Ground.data }, { on := 5, ground := Ground.data }, { on := 2, ground := Ground.guard }], guard := some (2, true) }) (v := undef) rfl (by kernel_rfl) (by kernel_rfl) (by kernel_rfl) (fun _ _ _ h => h) (.inr ⟨rfl, rfl⟩) hS ?_
          try simp only [Act.put, List.setIfInBounds_toArray, List.set_cons_zero, List.set_cons_succ]
          refine wpAnyH_take (i := 7) (oi := { dst := some 26, op := Op.fieldAddr 86 (Operand.tmp 25) 0, type := 0, pos := "coin.go:27", after := #[{ on := 6, ground := Ground.data }, { on := 2, ground := Ground.guard }], guard := some (2, true) }) (v := undef) rfl (by kernel_rfl) (by kernel_rfl) (by kernel_rfl) (fun _ _ _ h => h) (.inr ⟨rfl, rfl⟩) hS ?_
          try simp only [Act.put, List.setIfInBounds_toArray, List.set_cons_zero, List.set_cons_succ]
          refine wpAnyH_take (i := 8) (oi := { dst := some 27, op := Op.load 84 (Operand.tmp 26), type := 84, pos := "coin.go:27", after := #[{ on := 7, ground := Ground.data }, { on := 2, ground := Ground.guard }], guard := some (2, true) }) (v := undef) rfl (by kernel_rfl) (by kernel_rfl) (by kernel_rfl) (fun _ _ _ h => h) (.inr ⟨rfl, rfl⟩) hS ?_
          try simp only [Act.put, List.setIfInBounds_toArray, List.set_cons_zero, List.set_cons_succ]
          refine wpAnyH_take (i := 9) (oi := { dst := some 28, op := Op.fieldAddr 86 (Operand.tmp 4) 0, type := 0, pos := "coin.go:27", after := #[{ on := 2, ground := Ground.guard }], guard := some (2, true) }) (v := undef) rfl (by kernel_rfl) (by kernel_rfl) (by kernel_rfl) (fun _ _ _ h => h) (.inr ⟨rfl, rfl⟩) hS ?_
          try simp only [Act.put, List.setIfInBounds_toArray, List.set_cons_zero, List.set_cons_succ]
          refine wpAnyH_take (i := 10) (oi := { dst := some 29, op := Op.load 84 (Operand.tmp 28), type := 84, pos := "coin.go:27", after := #[{ on := 9, ground := Ground.data }, { on := 2, ground := Ground.guard }], guard := some (2, true) }) (v := undef) rfl (by kernel_rfl) (by kernel_rfl) (by kernel_rfl) (fun _ _ _ h => h) (.inr ⟨rfl, rfl⟩) hS ?_
          try simp only [Act.put, List.setIfInBounds_toArray, List.set_cons_zero, List.set_cons_succ]
          refine wpAnyH_ready (rs := [11]) (by kernel_rfl) (by simp) ?_
          refine AllReadyH.cons (o := _) rfl (fun K hK => ?_) AllReadyH.nil
          go_simp
          refine hK.out _ _ hS (fun hS1 => ?_)
          refine wpAnyH_take (i := 12) (oi := { dst := some 31, op := Op.binOp BinOp.geq 3 (Operand.tmp 30) (Operand.const (Value.int IntKind.i64 0)) 3, type := 4, pos := "coin.go:27", after := #[{ on := 11, ground := Ground.data }, { on := 2, ground := Ground.guard }], guard := some (2, true) }) (v := undef) rfl (by kernel_rfl) (by kernel_rfl) (by kernel_rfl) (fun _ _ _ h => h) (.inr ⟨rfl, rfl⟩) hS1 ?_
          try simp only [Act.put, List.setIfInBounds_toArray, List.set_cons_zero, List.set_cons_succ]
          refine wpAnyH_take (i := 13) (oi := { dst := some 32, op := Op.pick (Operand.tmp 21) (Operand.tmp 31) (Operand.const (Value.bool false)), type := 4, pos := "coin.go:27", after := #[{ on := 2, ground := Ground.data }, { on := 12, ground := Ground.data }], guard := none }) (v := .bool false) rfl (by kernel_rfl) (by kernel_rfl) (by kernel_rfl) (fun _ _ _ h => h) (yields_of rfl (fun w => by go_simp)) hS1 ?_
          try simp only [Act.put, List.setIfInBounds_toArray, List.set_cons_zero, List.set_cons_succ]
          refine wpAnyH_ready (rs := [14]) (by kernel_rfl) (by simp) ?_
          refine AllReadyH.cons (o := _) rfl (fun K hK => ?_) AllReadyH.nil
          go_simp
          refine hK.out _ _ hS1 (fun hS2 => ?_)
          refine wpAnyH_done (by kernel_rfl) ?_ _
          have hb6 := hid hS2
          obtain ⟨w6, hw6⟩ : ∃ W, W = w5.drew := ⟨_, rfl⟩
          rw [← hw6] at hb6
          rw [← hw6]
          clear hw6 t0 t1 hS hS1 hS2
        case' neg =>
          obtain ⟨k, hk⟩ : ∃ k, k = i - 1 := ⟨_, rfl⟩
          have hki : (i : Int) - 1 = (k : Int) := by omega
          have hkw : IntKind.i64.wrap ((i : Int) - 1) = (k : Int) := by rw [hki]; exact IntWalk.i64_in _ (by omega)
          have hkw2 : IntKind.i64.wrap (k : Int) = (k : Int) := IntWalk.i64_in _ (by omega)
          have hkn : (k : Int) < (n : Int) := by omega
          have hkn' : k < n := by omega
          obtain ⟨p, hp⟩ : ∃ p, l[k]? = some p := ⟨_, List.getElem?_eq_getElem (by rw [HLEN.out]; exact hkn')⟩
          have PLP := hid (plc_len (x := p.at_) ((unhid H).each p (List.mem_of_getElem? hp)).tx)
          have PTX := hid ((unhid H).each p (List.mem_of_getElem? hp)).tx
          obtain ⟨av, hav⟩ : ∃ av, decide (0 ≤ placeN p.tx p.at_ x.tx x.at_) = av := ⟨_, rfl⟩
          have HA : Hid (ahead (prevC l i) x = av) := by show _ = _; unfold prevC; rw [if_neg hi0, ← hk, hp]; exact hav
          have t0 : decide ((0 : Int) < (i : Int)) = true := by simp; omega
          have t1 : decide (0 < i) = true := by simp; omega
          have RP := hid (HK5.out k p hp)
          have RX : Hid (∀ W, Below w5.heap.size w5 W → W.rangeAt g4 0 (plc x.tx x.at_)) := fun W hW => range_place (((unhid B5).below hW h45).rangeL)
          have HAV := hid hav
          clear hi0 hk hp hav
          go_wp2_with fail
          refine wp_region_held_drew (S := fun w' => Below w5.heap.size w5 w') (by kernel_rfl) ((Below.refl _ _).drew) (fun hS => ?_)
          refine wpAnyH_take (i := 0) (oi := { dst := some 19, op := Op.move (Operand.tmp 3), type := 3, pos := "coin.go:27", after := #[], guard := none }) (v := .int .i64 (i : Int)) rfl (by kernel_rfl) (by kernel_rfl) (by kernel_rfl) (fun _ _ _ h => h) (yields_of rfl (fun w => by go_simp)) hS ?_
          try simp only [Act.put, List.setIfInBounds_toArray, List.set_cons_zero, List.set_cons_succ]
          refine wpAnyH_take (i := 1) (oi := { dst := some 20, op := Op.binOp BinOp.gtr 3 (Operand.tmp 19) (Operand.const (Value.int IntKind.i64 0)) 3, type := 4, pos := "coin.go:27", after := #[{ on := 0, ground := Ground.data }], guard := none }) (v := .bool true) rfl (by kernel_rfl) (by kernel_rfl) (by kernel_rfl) (fun _ _ _ h => h) (yields_of rfl (fun w => by go_simp)) hS ?_
          try simp only [Act.put, List.setIfInBounds_toArray, List.set_cons_zero, List.set_cons_succ]
          refine wpAnyH_take (i := 2) (oi := { dst := some 21, op := Op.move (Operand.tmp 20), type := 4, pos := "coin.go:27", after := #[{ on := 1, ground := Ground.data }], guard := none }) (v := .bool true) rfl (by kernel_rfl) (by kernel_rfl) (by kernel_rfl) (fun _ _ _ h => h) (yields_of rfl (fun w => by go_simp)) hS ?_
          try simp only [Act.put, List.setIfInBounds_toArray, List.set_cons_zero, List.set_cons_succ]
          refine wpAnyH_take (i := 3) (oi := { dst := some 22, op := Op.move (Operand.tmp 0), type := 26, pos := "coin.go:27", after := #[{ on := 2, ground := Ground.guard }], guard := some (2, true) }) (v := .slice (some ⟨g, q, none⟩) n c) rfl (by kernel_rfl) (by kernel_rfl) (by kernel_rfl) (fun _ _ _ h => h) (yields_of rfl (fun w => by go_simp)) hS ?_
          try simp only [Act.put, List.setIfInBounds_toArray, List.set_cons_zero, List.set_cons_succ]
          refine wpAnyH_take (i := 4) (oi := { dst := some 23, op := Op.move (Operand.tmp 3), type := 3, pos := "coin.go:27", after := #[{ on := 2, ground := Ground.guard }], guard := some (2, true) }) (v := .int .i64 (i : Int)) rfl (by kernel_rfl) (by kernel_rfl) (by kernel_rfl) (fun _ _ _ h => h) (yields_of rfl (fun w => by go_simp)) hS ?_
          try simp only [Act.put, List.setIfInBounds_toArray, List.set_cons_zero, List.set_cons_succ]
          refine wpAnyH_take (i := 5) (oi := { dst := some 24, op := Op.binOp BinOp.sub 3 (Operand.tmp 23) (Operand.const (Value.int IntKind.i64 1)) 3, type := 3, pos := "coin.go:27", after := #[{ on := 4, ground := Ground.data }, { on := 2, ground := Ground.guard }], guard := some (2, true) }) (v := .int .i64 (k : Int)) rfl (by kernel_rfl) (by kernel_rfl) (by kernel_rfl) (fun _ _ _ h => h) (yields_of rfl (fun w => by go_simp)) hS ?_
          try simp only [Act.put, List.setIfInBounds_toArray, List.set_cons_zero, List.set_cons_succ]
          refine wpAnyH_take (i := 6) (oi := { dst := some 25, op := Op.indexAddr 26 (Operand.tmp 22) (Operand.tmp 24), type := 0, pos := "coin.go:27", after := #[{ on := 3, ground := Ground.data }, { on := 5, ground := Ground.data }, { on := 2, ground := Ground.guard }], guard := some (2, true) }) (v := .pointer (some ⟨g, q + k * 36, none⟩)) rfl (by kernel_rfl) (by kernel_rfl) (by kernel_rfl) (fun _ _ _ h => h) (yields_of rfl (fun w => by go_simp)) hS ?_
          try simp only [Act.put, List.setIfInBounds_toArray, List.set_cons_zero, List.set_cons_succ]
          refine wpAnyH_take (i := 7) (oi := { dst := some 26, op := Op.fieldAddr 86 (Operand.tmp 25) 0, type := 0, pos := "coin.go:27", after := #[{ on := 6, ground := Ground.data }, { on := 2, ground := Ground.guard }], guard := some (2, true) }) (v := .pointer (some ⟨g, q + k * 36, none⟩)) rfl (by kernel_rfl) (by kernel_rfl) (by kernel_rfl) (fun _ _ _ h => h) (yields_of rfl (fun w => by go_simp)) hS ?_
          try simp only [Act.put, List.setIfInBounds_toArray, List.set_cons_zero, List.set_cons_succ]
          refine wpAnyH_take (i := 8) (oi := { dst := some 27, op := Op.load 84 (Operand.tmp 26), type := 84, pos := "coin.go:27", after := #[{ on := 7, ground := Ground.data }, { on := 2, ground := Ground.guard }], guard := some (2, true) }) (v := placeV p.tx p.at_) rfl (by kernel_rfl) (by kernel_rfl) (by kernel_rfl) (fun _ _ _ h => h) (yields_row placeT rfl (.tmp 26) rfl rfl PLP.out (fun w h => RP.out w h)) hS ?_
          try simp only [Act.put, List.setIfInBounds_toArray, List.set_cons_zero, List.set_cons_succ]
          refine wpAnyH_take (i := 9) (oi := { dst := some 28, op := Op.fieldAddr 86 (Operand.tmp 4) 0, type := 0, pos := "coin.go:27", after := #[{ on := 2, ground := Ground.guard }], guard := some (2, true) }) (v := .pointer (some ⟨g4, 0, none⟩)) rfl (by kernel_rfl) (by kernel_rfl) (by kernel_rfl) (fun _ _ _ h => h) (yields_of rfl (fun w => by go_simp)) hS ?_
          try simp only [Act.put, List.setIfInBounds_toArray, List.set_cons_zero, List.set_cons_succ]
          refine wpAnyH_take (i := 10) (oi := { dst := some 29, op := Op.load 84 (Operand.tmp 28), type := 84, pos := "coin.go:27", after := #[{ on := 9, ground := Ground.data }, { on := 2, ground := Ground.guard }], guard := some (2, true) }) (v := placeV x.tx x.at_) rfl (by kernel_rfl) (by kernel_rfl) (by kernel_rfl) (fun _ _ _ h => h) (yields_row placeT rfl (.tmp 28) rfl rfl PL.out (fun w h => RX.out w h)) hS ?_
          try simp only [Act.put, List.setIfInBounds_toArray, List.set_cons_zero, List.set_cons_succ]
          have hbd : Below w5.heap.size w5 w5.drew := (Below.refl _ _).drew
          obtain ⟨w5d, hw5d⟩ : ∃ W, W = w5.drew := ⟨_, rfl⟩
          rw [← hw5d] at hbd
          rw [← hw5d]
          clear hw5d hS
          refine wpAnyH_ready (rs := [11]) (by kernel_rfl) (by simp) ?_
          refine AllReadyH.cons (o := _) rfl (fun K hK => ?_) AllReadyH.nil
          go_simp
          refine (place_any p.tx x.tx p.at_ x.at_ _ PTX.out TXL.out).mono ?_
          rintro e w6 ⟨rfl, hq6⟩
          have hb6 := hid (hbd.trans (hq6.mono hbd.size))
          obtain ⟨z, hz⟩ : ∃ z, z = placeN p.tx p.at_ x.tx x.at_ := ⟨_, rfl⟩
          have hav := HAV.out
          rw [← hz] at hav
          rw [← hz]
          clear hz hq6 hbd HAV
          go_wp2_with fail
          refine hK.out _ _ (unhid hb6) (fun hS1 => ?_)
          refine wpAnyH_take (i := 12) (oi := { dst := some 31, op := Op.binOp BinOp.geq 3 (Operand.tmp 30) (Operand.const (Value.int IntKind.i64 0)) 3, type := 4, pos := "coin.go:27", after := #[{ on := 11, ground := Ground.data }, { on := 2, ground := Ground.guard }], guard := some (2, true) }) (v := .bool av) rfl (by kernel_rfl) (by kernel_rfl) (by kernel_rfl) (fun _ _ _ h => h) (yields_of rfl (fun w => by go_simp)) hS1 ?_
          try simp only [Act.put, List.setIfInBounds_toArray, List.set_cons_zero, List.set_cons_succ]
          refine wpAnyH_take (i := 13) (oi := { dst := some 32, op := Op.pick (Operand.tmp 21) (Operand.tmp 31) (Operand.const (Value.bool false)), type := 4, pos := "coin.go:27", after := #[{ on := 2, ground := Ground.data }, { on := 12, ground := Ground.data }], guard := none }) (v := .bool av) rfl (by kernel_rfl) (by kernel_rfl) (by kernel_rfl) (fun _ _ _ h => h) (yields_of rfl (fun w => by go_simp)) hS1 ?_
          try simp only [Act.put, List.setIfInBounds_toArray, List.set_cons_zero, List.set_cons_succ]
          refine wpAnyH_ready (rs := [14]) (by kernel_rfl) (by simp) ?_
          refine AllReadyH.cons (o := _) rfl (fun K hK => ?_) AllReadyH.nil
          go_simp
          refine hK.out _ _ hS1 (fun hS2 => ?_)
          refine wpAnyH_done (by kernel_rfl) ?_ _
          clear t0 t1 hS1 hS2 hav hki hkw hkw2 hkn hkn' PLP PTX RP RX
          cases av
          case' true =>
            have HST : Hid (stepC (prevC l i) x = 6) := by show _ = _; unfold stepC; rw [if_pos HA.out]
            have HF := hid ((unhid HB5).trans ((unhid hb6).mono hs5))
            go_wp2_with fail
            go_ret
            exact ⟨by rw [E.out, HN.out, HST.out, if_neg (by decide)]; rfl, unhid HF⟩
        all_goals
          obtain ⟨c32, c33, c34, c35⟩ := coin_cells0 ((unhid B5).below (unhid hb6) h45).rangeL TXL.out
          have HB6 := hid ((unhid HB5).trans ((unhid hb6).mono hs5))
          have OPS6 := hid ((unhid OPS5).below ((unhid hb6).mono (by omega)))
          have hs6 := (unhid HB6).size
          clear B5 hb6 HB5 OPS5 RG5 HK5
          by_cases hr : x.at_ < 0 ∨ 40 ≤ x.at_ ∨ x.h < 0 ∨ 1073741824 < x.h
          · have HST : Hid (stepC (prevC l i) x = 2) := by show _ = _; unfold stepC; rw [if_neg (by rw [HA.out]; decide), if_pos hr]
            have HR : Hid (errV (checkN l) = .iface 55 (.int .i64 2)) := by show _ = _; rw [E.out, HN.out, HST.out, if_neg (by decide)]; rfl
            by_cases a1 : x.at_ < 0
            · clear hr
              go_wp2_with fail
              go_ret
              exact ⟨by rw [HR.out]; rfl, unhid HB6⟩
            · by_cases a2 : 40 ≤ x.at_
              · clear hr
                go_wp2_with fail
                go_ret
                exact ⟨by rw [HR.out]; rfl, unhid HB6⟩
              · by_cases a3 : x.h < 0
                · clear hr
                  go_wp2_with fail
                  go_ret
                  exact ⟨by rw [HR.out]; rfl, unhid HB6⟩
                · have a4 : decide ((1073741824 : Int) < x.h) = true := by simp; omega
                  clear hr
                  go_wp2_with fail
                  go_ret
                  exact ⟨by rw [HR.out]; rfl, unhid HB6⟩
          · have a1 : ¬ x.at_ < 0 := by omega
            have a2 : ¬ 40 ≤ x.at_ := by omega
            have a3 : ¬ x.h < 0 := by omega
            have a4 : decide ((1073741824 : Int) < x.h) = false := by simp; omega
            have HS1 : Hid (stepC (prevC l i) x = if x.amt < 0 ∨ 1125899906842624 < x.amt then 2 else lockN x.ops) := by show _ = _; unfold stepC; rw [if_neg (by rw [HA.out]; decide), if_neg hr]
            clear hr
            by_cases hm : x.amt < 0 ∨ 1125899906842624 < x.amt
            · have HR : Hid (errV (checkN l) = .iface 55 (.int .i64 2)) := by show _ = _; rw [E.out, HN.out, HS1.out, if_pos hm, if_neg (by decide)]; rfl
              have HM := hid hm
              clear hm
              go_wp2_with (go_at_call 59; refine (check_err _ _ HM.out).mono ?_; rintro e w' ⟨rfl, rfl⟩)
              go_ret
              exact ⟨by rw [HR.out]; rfl, unhid HB6⟩
            · have HS2 : Hid (stepC (prevC l i) x = lockN x.ops) := by show _ = _; rw [HS1.out, if_neg hm]
              have m1 : 0 ≤ x.amt := by omega
              have m2 : x.amt ≤ 1125899906842624 := by omega
              have HM1 := hid m1; have HM2 := hid m2
              clear hm m1 m2 HS1
              go_wp2_with (first | (go_at_call 59; refine (check_ok _ _ HM1.out HM2.out).mono ?_; rintro e w' ⟨rfl, rfl⟩) | (go_at_call 60; refine (lock_any x.ops x.A x.len x.cap D _ (unhid OPS6) (by omega)).mono ?_; refine halt_at (fun K hK => ?_)))
              refine go_on hK ?_; clear hK
              rintro e w7 ⟨rfl, hq7⟩
              have HB7 := hid ((unhid HB6).trans (hq7.mono hs6))
              obtain ⟨z, hz⟩ : ∃ z, z = lockN x.ops := ⟨_, rfl⟩
              rw [← hz] at HS2
              rw [← hz]
              clear hq7 hz HB6 OPS6 c32 c33 c34 c35
              by_cases z0 : z = 0
              · subst z0
                have HG2 : Hid (goC none l = goC (prevC l (i + 1)) (l.drop (i + 1))) := by show _ = _; rw [HN.out, HS2.out, if_pos rfl]
                have he : errV 0 = .nilIface := rfl
                rw [he]
                clear he
                go_wp2_with fail
                go_roundw
                case rel => exact ⟨i + 1, by omega, by go_num, HG2, HB7⟩
                case measure => simp [intOf]; omega
              · have HR : Hid (errV (checkN l) = errV z) := by show _ = _; rw [E.out, HN.out, HS2.out, if_neg z0]
                have he : errV z = .iface 55 (.int .i64 z) := by unfold errV; rw [if_neg z0]
                rw [he]
                have HE := hid he
                clear he z0
                go_wp2_with fail
                go_ret
                exact ⟨by rw [HR.out, HE.out]; rfl, unhid HB7⟩
      · have hin : i = n := by omega
        subst hin
        have E2 : Hid (checkN l = 0) := by
          show _ = _
          rw [E.out, HG.out, List.drop_of_length_le (by rw [HLEN.out]; exact Nat.le_refl _)]; rfl
        clear HG E
        go_wp2_with fail
        go_ret
        exact ⟨by rw [E2.out]; rfl, unhid HB⟩
end Go.Proofs.YtibhhbjbfdbmdaaDoor
