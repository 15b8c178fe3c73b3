/- The walks of slices.Backward at bytes and of share.Value. -/
import Derived.RangeFuncBox
import Derived.RangeFuncNested
import Derived.RangeFuncLeaves
import Derived.Shelf.Abstract
import Derived.WalkKit
import Derived.OwnWalkIn
import Derived.TacticsInMore
import Derived.LoopNIn
import Derived.LoopIn
import Derived.Test.YtilaipdpbcfhkaaDoorFieldW
import Derived.Test.YtilaipdpbcfhkaaDoorTail
namespace Go.Proofs.YtilaipdpbcfhkaaDoor
set_option linter.unusedVariables false
open Go.RowKit Go.Mny Go.Shelf
attribute [local go_sem] Oper.semAt_some
abbrev Byt := { n : Nat // n < 256 }
def upto {α : Type} (f : Nat → α) (k : Nat) : List α := (List.range k).map f
theorem upto_succ {α : Type} (f : Nat → α) (k : Nat) : upto f (k + 1) = upto f k ++ [f k] := by simp [upto, List.range_succ]
theorem upto_length {α : Type} (f : Nat → α) (k : Nat) : (upto f k).length = k := by simp [upto]
/-- All is kept but block vb and what lies from block B on. -/
def KV (vb B : Nat) (W W' : World) : Prop := Kept (fun j => j = vb ∨ B ≤ j) W W'
theorem KV.cell {vb B : Nat} {W W' : World} (h : KV vb B W W') {g o : Nat} (h1 : g < W.heap.size) (h2 : g ≠ vb) (h3 : g < B) : W'.cell? ⟨g, o, none⟩ = W.cell? ⟨g, o, none⟩ :=
  World.cell?_of_block (Kept.block h g h1 (fun hs => hs.elim h2 (fun hs => by omega)))
theorem KV.trans {vb B : Nat} {A C W : World} (h : KV vb B A C) (k : KV vb B C W) : KV vb B A W := Kept.trans h k (fun _ _ h => h)
theorem KV.put {vb : Nat} {w : World} (W : World) (l : Nat) (o o' : Obj) (hl : w.heap.size ≤ l) (h : W.heap[l]? = some o) (_ : o.isCells = false) (_ : o.isWalk = false) : KV vb w.heap.size W (W.putObj l o') :=
  (Kept.of_grown (grownBy_putObj' W l o')).weak (fun j _ e => .inr (by injection e with e; omega))
theorem get_lt {b : List Nat} (h : ∀ x ∈ b, x < 256) (i : Nat) : b[i]?.getD 0 < 256 := by
  cases hi : b[i]? with
  | none => simp
  | some x => simpa using h x (List.mem_of_getElem? hi)
/-- what comes at round j -/
def comes (b : List Nat) (h : ∀ x ∈ b, x < 256) (j : Nat) : Nat × Byt := (b.length - 1 - j, ⟨b[b.length - 1 - j]?.getD 0, get_lt h _⟩)
set_option maxRecDepth 100000 in
set_option maxHeartbeats 2000000 in
theorem back1_in (F : Fence) (n : Nat) (hf : F.fn 34) (hro : F.round = none) (hn : 1 ≤ n) (l Bs vb B len cap D : Nat) (A : Option Addr) (b : List Nat) (b8 : ∀ x ∈ b, x < 256) (hlen : b.length = len) (hreach : len ≤ 9223372036854775807) (hv : Bs ≠ vb) (hB : Bs < B) (hD : D ≤ vb) (hDB : D ≤ B) (J Jx : List (Nat × Byt) → World → Prop)
    (hY : ∀ pre x W, J pre W → pre.length < len → YieldAt F (n - 1) Tryd.prog l #[.int .i64 (x.1 : Int), .int .u8 (x.2.1 : Int)] W fun e W' =>
      (e = .returned (.bool true) ∧ J (pre ++ [x]) W' ∧ KV vb B W W') ∨ (e = .returned (.bool false) ∧ Jx (pre ++ [x]) W'))
    (W : World) (hBs : W.cell? ⟨Bs, 0, none⟩ = some (.slice A len cap)) (hr : Row W D 1 A len (b.map fun x : Nat => Value.int .u8 (x : Int))) (hz : B ≤ W.heap.size) (h0 : J [] W) :
    CallsIn F n Tryd.prog 34 #[.func (.yield l) #[] #[], .pointer (some ⟨Bs, 0, none⟩)] W fun e W' => (∃ v, e = .returned v) ∧
      ((∃ ys, ys = upto (comes b b8) len ∧ J ys W') ∨ (∃ pre, (∃ k, k ≤ len ∧ pre = upto (comes b b8) k) ∧ Jx pre W')) := by
  have HR := hid hr; have HLEN := hid hlen; have HJ0 := h0
  clear hr hlen
  refine callsIn_of_wp Tryd.func34 rfl hf ?_ hro
  simp only [Tryd.ntmps34, List.size_toArray, List.length_cons, List.length_nil, Nat.reduceAdd, Nat.reduceSub, Array.replicate_succ, Array.replicate_zero, List.push_toArray, List.append_toArray, List.nil_append, List.cons_append]
  gi_wp2
  gi_loopw [3] (fun i wr => ∃ k q : Nat, Hid (q + k = len) ∧ q ≤ len ∧ i = .int .i64 ((q : Int) - 1) ∧ J (upto (comes b b8) k) wr ∧ KV vb B W wr)
    (fun i _ => (intOf i + 1).toNat)
  case atStart => exact ⟨0, len, rfl, Nat.le_refl _, rfl, h0, Kept.refl _ _⟩
  case round =>
    obtain ⟨k, q, HQ, hql, rfl, hJs, hnx⟩ := hrel
    have hcb : wr.cell? ⟨Bs, 0, none⟩ = some (.slice A len cap) := (hnx.cell (by omega) hv hB).trans hBs
    cases q with
    | zero =>
      have hk : k = len := by have := HQ.out; omega
      subst hk
      gi_wp2
      go_end0
      exact ⟨⟨_, rfl⟩, .inl ⟨_, rfl, hJs⟩⟩
    | succ q =>
      obtain ⟨g, o, rfl, hg, hc⟩ := (unhid HR).cells (by omega)
      have hx : wr.cell? ⟨g, o + q, none⟩ = some (.int .u8 ((b[q]?.getD 0 : Nat) : Int)) := by
        rw [hnx.cell (by omega) (by omega) (by omega), hc q (by rw [List.length_map, HLEN.out]; omega), List.getElem?_map, List.getElem?_eq_getElem (by rw [HLEN.out]; omega)]
        simp
      have hqk : Hid (comes b b8 k = (q, ⟨b[q]?.getD 0, get_lt b8 _⟩)) := by
        have : b.length - 1 - k = q := by rw [HLEN.out]; have := HQ.out; omega
        show _ = _
        unfold comes; simp only [this]
      obtain ⟨fn, tmps, assign, body, hy, hR⟩ := hY _ (q, ⟨b[q]?.getD 0, get_lt b8 _⟩) wr hJs (by rw [upto_length]; have := HQ.out; omega)
      dsimp only at hy
      rw [show (((q + 1 : Nat) : Int) - 1) = (q : Int) by omega]
      have i1 : (0 : Int) ≤ (q : Int) := by omega
      have i2 : (q : Int) < (len : Int) := by omega
      clear hc
      gi_wp2
      refine hR.mono ?_
      rintro e W3 (⟨rfl, hJ3, hk3⟩ | ⟨rfl, hJx3⟩)
      · gi_wp2
        go_roundw
        case rel => exact ⟨k + 1, q, hid (by have := HQ.out; omega), by omega, rfl, by rw [upto_succ, hqk.out]; exact hJ3, hnx.trans hk3⟩
        case measure => simp [intOf]
      · gi_wp2
        refine bodyPost_ret (results_none rfl _ _ _) rfl ?_
        exact ⟨⟨_, rfl⟩, .inr ⟨_, ⟨k + 1, by have := HQ.out; omega, (by rw [upto_succ, hqk.out])⟩, hJx3⟩⟩
set_option maxHeartbeats 1000000 in
theorem backward_in (F : Fence) (n : Nat) (h5 : F.fn 29) (hro : F.round = none) (a : Option Addr) (len cap : Nat) (w : World) :
    CallsIn F n Tryd.prog 29 #[.slice a len cap] w fun e w' => e = .returned (.func (.func 34) #[] #[.pointer (some ⟨w.heap.size, 0, none⟩)]) ∧ w' = w.alloc (.cells #[.slice a len cap] 33) := by
  refine callsIn_of_wp Tryd.func29 rfl h5 ?_ hro
  simp only [Tryd.ntmps29, List.size_toArray, List.length_cons, List.length_nil, Nat.reduceAdd, Nat.reduceSub, Array.replicate_succ, Array.replicate_zero, List.push_toArray, List.append_toArray, List.nil_append, List.cons_append]
  gi_wp2
  go_ret
  exact ⟨rfl, rfl⟩
theorem back_stops (F : Fence) (n : Nat) (hf : F.fn 34) (hro : F.round = none) (hn : 1 ≤ n) (Bs vb len cap D : Nat) (A : Option Addr) (b : List Nat) (b8 : ∀ x ∈ b, x < 256) (hlen : b.length = len) (hreach : len ≤ 9223372036854775807) (w : World) (hBs : Bs < w.heap.size) (hv : Bs ≠ vb) (hD : D ≤ vb) (hDB : D ≤ w.heap.size)
    (hc : w.cell? ⟨Bs, 0, none⟩ = some (.slice A len cap)) (hr : Row w D 1 A len (b.map fun x : Nat => Value.int .u8 (x : Int))) :
    SeqStopsK F n Tryd.prog 34 #[.pointer (some ⟨Bs, 0, none⟩)] (fun x : Nat × Byt => #[Value.int .i64 (x.1 : Int), Value.int .u8 (x.2.1 : Int)]) (KV vb w.heap.size) (fun ys => ys = upto (comes b b8) len) (fun pre => ∃ k, k ≤ len ∧ pre = upto (comes b b8) k) len w := fun l J Jx W hW _ _ hY h0 =>
  back1_in F n hf hro hn l Bs vb w.heap.size len cap D A b b8 hlen hreach hv hBs hD hDB J Jx hY W ((hW.cell (p := ⟨Bs, 0, none⟩) hBs).trans hc) (hr.below (hW.mono hDB)) hW.size h0
/-- the polynomial's value so far -/
def accV (x : Nat) (pre : List (Nat × Byt)) : Nat := pre.foldl (fun v p => Fld.mul v x ^^^ p.2.1) 0
theorem accV_snoc (x : Nat) (pre : List (Nat × Byt)) (p : Nat × Byt) : accV x (pre ++ [p]) = Fld.mul (accV x pre) x ^^^ p.2.1 := by simp [accV]
theorem accV_lt (x : Nat) (pre : List (Nat × Byt)) : accV x pre < 256 := by
  have key : ∀ (l : List (Nat × Byt)) (v : Nat), v < 256 → l.foldl (fun v p => Fld.mul v x ^^^ p.2.1) v < 256 := by
    intro l
    induction l with
    | nil => intro v hv; exact hv
    | cons p l ih => intro v hv; exact ih _ (Fld.xor_lt _ _ (Fld.mul_lt v x hv) p.2.2)
  exact key pre 0 (by decide)
theorem accV_all (x : Nat) (b : List Nat) (b8 : ∀ y ∈ b, y < 256) : accV x (upto (comes b b8) b.length) = Fld.ev b x := by
  have h : (upto (comes b b8) b.length).map (fun p => p.2.1) = b.reverse := by
    refine List.ext_getElem (by simp [upto]) fun i h1 h2 => ?_
    have hi : i < b.length := by simpa [upto] using h1
    simp only [upto, List.map_map, List.getElem_map, List.getElem_range, Function.comp, comes, List.getElem_reverse]
    rw [List.getElem?_eq_getElem (by omega)]; rfl
  have e : accV x (upto (comes b b8) b.length) = ((upto (comes b b8) b.length).map (fun p => p.2.1)).foldl (fun v a => Fld.mul v x ^^^ a) 0 := by
    rw [List.foldl_map]; rfl
  rw [e, h, List.foldl_reverse]; rfl
set_option maxRecDepth 100000 in
set_option maxHeartbeats 2000000 in
theorem value_any (b : List Nat) (x : Nat) (A : Option Addr) (n c D : Nat) (w : World) (hr : Row w D 1 A n (b.map fun x : Nat => Value.int .u8 (x : Int))) (hD : D ≤ w.heap.size) (hn : n ≤ 9223372036854775807) (b8 : ∀ y ∈ b, y < 256) (hx : x < 256) :
    Calls Tryd.prog 14 #[.slice A n c, .int .u8 (x : Int)] w fun e w' => e = .returned (.int .u8 (Fld.ev b x : Nat)) ∧ Below w.heap.size w w' := by
  have hlen : b.length = n := by have := hr.len; simpa using this
  have HR := hid hr; have HLEN := hid hlen
  clear hr hlen
  refine (callsIn_wide (n := 5)).1 ?_
  refine callsIn_of_wp_marks Tryd.func14 rfl trivial ?_ rfl
  simp only [Tryd.ntmps14, List.size_toArray, List.length_cons, List.length_nil, Nat.reduceAdd, Nat.reduceSub, Array.replicate_succ, Array.replicate_zero, List.push_toArray, List.append_toArray, List.nil_append, List.cons_append]
  gi_wp2_with (fail)
  refine ⟨trivial, ?_⟩
  refine (backward_in Fence.wide 4 trivial rfl _ _ _ _).mono ?_
  rintro e w' ⟨rfl, rfl⟩
  gi_wp2_with (fail)
  have bX := Boxed.new w 5 (.int .u8 (x : Int))
  have bV := Boxed.new (w.alloc (.cells #[.int .u8 (x : Int)] 5)) 5 (.int .u8 0)
  have bN := Boxed.new ((w.alloc (.cells #[.int .u8 (x : Int)] 5)).alloc (.cells #[.int .u8 0] 5)) 33 (.slice A n c)
  rw [World.size_alloc] at bV bN
  rw [World.size_alloc] at bN
  have hB0 : Below w.heap.size w (((w.alloc (.cells #[.int .u8 (x : Int)] 5)).alloc (.cells #[.int .u8 0] 5)).alloc (.cells #[.slice A n c] 33)) := (((Below.refl _ w).alloc (Nat.le_refl _) _).alloc (by simp) _).alloc (by simp; omega) _
  have hRow := (unhid HR).below (hB0.mono hD)
  refine wpIn_rangeFunc_ownG rfl (by decide) (gf := 34) (lb := #[.pointer (some ⟨w.heap.size + 1 + 1, 0, none⟩)]) rfl trivial (enters_of Tryd.func34 (by kernel_rfl) rfl)
    (back_stops Fence.wide 4 trivial rfl (by decide) (w.heap.size + 1 + 1) (w.heap.size + 1) n c D A b b8 HLEN.out hn _ (by simp) (by omega) (by omega) (by simp; omega) bN.cell hRow) KV.trans KV.put (Below.refl _ _) (fun _ => rfl)
    (fun pre W => (W.cell? ⟨w.heap.size, 0, none⟩ = some (.int .u8 (x : Int)) ∧ W.cell? ⟨w.heap.size + 1, 0, none⟩ = some (.int .u8 (accV x pre : Nat)) ∧ W.frozen? ⟨w.heap.size + 1, 0, none⟩ = false) ∧ Below w.heap.size w W)
    (fun _ _ _ => False)
    (OwnFrom.and (Own.from (fun s A B row hs hg hr => ⟨cell_kept hs.1 hg hr, cell_kept hs.2.1 hg hr, (frozen_kept hs.2.1 hg hr).trans hs.2.2⟩) _) (ownFrom_below (Nat.le_refl _) (by simp; omega)))
    (fun _ _ _ _ _ hs _ _ => hs)
    ⟨⟨((bX.alloc _).alloc _).cell, (bV.alloc _).cell, (bV.alloc _).frozen⟩, hB0⟩
    (fun p => { tmps := #[.slice A n c, .int .u8 (x : Int), undef, .pointer (some ⟨w.heap.size, 0, none⟩), .int .u8 0, .pointer (some ⟨w.heap.size + 1, 0, none⟩), undef, .int .u8 (p.2.1 : Int), .slice A n c, .func (.func 34) #[] #[.pointer (some ⟨w.heap.size + 1 + 1, 0, none⟩)], .int .i64 (p.1 : Int), .int .u8 (p.2.1 : Int), undef, undef, undef, undef, undef, undef], defers := [] }) ?assign ?body ?done ?stop
  case assign =>
    intro l x W K hK
    gi_wp2
    exact hK
  case body =>
    rintro l pre p W ⟨⟨hcx, hcv, hf⟩, hB⟩ _
    have hlt := accV_lt x pre
    have hm := Fld.mul_lt (accV x pre) x hlt
    have hp := p.2.2
    have HS := hid (accV_snoc x pre p)
    have hwz := hB.size
    have hvb : w.heap.size + 1 < W.heap.size := World.block_lt_of_cell? W _ hcv
    gi_wp2_with (fail)
    refine ⟨trivial, ?_⟩
    refine (CallsIn.inRound l (callsIn_wide.2 (mul_any (accV x pre) x _ hlt hx))).mono ?_
    rintro e w' ⟨rfl, rfl⟩
    gi_wp2_with (fail)
    refine ⟨trivial, ?_⟩
    refine (CallsIn.inRound l (callsIn_wide.2 (add_any (Fld.mul (accV x pre) x) p.2.1 _ hm hp))).mono ?_
    rintro e w' ⟨rfl, rfl⟩
    gi_wp2_with (fail)
    exact ⟨(KeepsOthers.setCell _ _ _).from _, Kept.set (Kept.refl _ _) ⟨w.heap.size + 1, 0, none⟩ (fun _ => .inl rfl) _, ⟨(World.cell?_setCell_other _ _ _ _ (by simp)).trans hcx, by rw [HS.out]; exact World.cell?_setCell_same' _ _ _ (by rw [hcv]; rfl), by rw [World.frozen?_setCell]; exact hf⟩, hB.setCell (p := ⟨w.heap.size + 1, 0, none⟩) (by simp) _⟩
  case done =>
    rintro D' ys W hD' rfl ⟨⟨_, hcv, _⟩, hB⟩ hK
    have HA := hid (accV_all x b b8)
    rw [HLEN.out] at HA
    rw [HA.out] at hcv
    gi_wp2
    refine ⟨by simp, .inl ⟨_, _, rfl, run_takeDeferred hK, ?_⟩⟩
    exact ⟨_, results_tmp rfl _ _ _, rfl, hB.trans (belowK_b (w := w) (Nat.le_refl _) W D' _ _ (by simp at hD'; omega) hK rfl rfl)⟩
  case stop =>
    rintro D c pre W _ _ h _
    exact h.elim
end Go.Proofs.YtilaipdpbcfhkaaDoor
