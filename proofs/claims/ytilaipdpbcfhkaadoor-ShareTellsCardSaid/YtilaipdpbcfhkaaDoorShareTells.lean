/- ShareTells: whatever the arguments, the law returns true and every argument reads as it did. -/
import Derived.Test.YtilaipdpbcfhkaaDoorOpen
import Derived.Test.YtilaipdpbcfhkaaDoorShareTellsW
import Derived.Test.YtilaipdpbcfhkaaDoorCards
import Derived.Test.YtilaipdpbcfhkaaDoorTie
import Derived.Deep.DeepHandedRow
import Derived.Lib.LaidTab
import Derived.LaidHandle
import Derived.LaidLaws
import Derived.WalkKit
import Derived.ProofKit
import Derived.OpenShut
import Derived.ChangeOld
import Derived.Below
import Derived.JoinedCond
namespace Go.Proofs.YtilaipdpbcfhkaaDoor.shareTells
open Go.ChangeShapes Go.WideShapes Go.ChangeAt Go.RowKit Go.Mny
theorem own : ownKnob Tryd.prog.godebug = none := by kernel_rfl
theorem laidOut : laidOutB Tryd.prog = true := by kernel_rfl
/- The walk:
theorem shareTells_walk (A0 : Option Addr) (n0 c0 : Nat) (l0 : List Int) (a1 : Int) (A2 : Option Addr) (n2 c2 : Nat) (l2 : List Int) (a3 : Int) (A4 : Option Addr) (n4 c4 m4 : Nat) (w : World) (b0 : n0 ≤ c0) (g0 : c0 ≤ maxLen) (r0 : Row w w.heap.size 1 A0 n0 (l0.map (Value.int .u8))) (f0 : ∀ z ∈ l0, (Lit.int .u8 z).wf = true) (f1 : (Lit.int .u8 a1).wf = true) (b2 : n2 ≤ c2) (g2 : c2 ≤ maxLen) (r2 : Row w w.heap.size 1 A2 n2 (l2.map (Value.int .u8))) (f2 : ∀ z ∈ l2, (Lit.int .u8 z).wf = true) (f3 : (Lit.int .i64 a3).wf = true) (s4 : Sh.ok w w.heap.size (.slice 1 (.slice 1 (.int .u8))) m4 [.slice A4 n4 c4])  (hH : Hdl w) :
    Calls Tryd.prog 4 #[.slice A0 n0 c0, .int .u8 a1, .slice A2 n2 c2, .int .i64 a3, .slice A4 n4 c4] w fun e w' => e = .returned (.bool true) ∧ Below w.heap.size w w' -/
set_option maxRecDepth 100000 in
theorem contract (H : Type) (enc : TypeId × Value → H) (W : World) (base : Nat) (args : Array Value) (ds gs : List (DataW H)) (before : List MemPlace)
    (hval0 : ∀ (j : Nat) t v, Tryd.f4.params[j]? = some t → args[j]? = some v → Value.okWide Tryd.prog W .any base t v)
    (hW : DataW.Whole enc Tryd.prog Tryd.f4.params.toList Rows.shareTellsSpec.vars false W args.toList ds gs before) (hH : Hdl W) :
    Calls Tryd.prog 4 args W fun e W' => ∃ v, e = .returned v ∧ Rows.shareTellsSpec.post enc Tryd.prog Tryd.f4 false true false false W args v W' := by
  have hval : ∀ (j : Nat) t v, Tryd.f4.params[j]? = some t → args[j]? = some v → Value.okWide Tryd.prog W .any base t v := hval0
  have hW' := hW
  obtain ⟨p, q, hA0, hV, rfl, hfz, hnd⟩ := hW
  have hA : DataW.TrodAll enc Tryd.prog W 0 (fun _ => true) true Tryd.f4.params.toList args.toList ds p := hA0
  rw [Tryd.params4] at hA hval
  obtain ⟨v0, vs0, d0, ds0, p0, o0, hargs, rfl, rfl, h0, z0⟩ := trodAll_cons hA
  obtain ⟨v1, vs1, d1, ds1, p1, o1, rfl, rfl, rfl, h1, z1⟩ := trodAll_cons z0
  obtain ⟨v2, vs2, d2, ds2, p2, o2, rfl, rfl, rfl, h2, z2⟩ := trodAll_cons z1
  obtain ⟨v3, vs3, d3, ds3, p3, o3, rfl, rfl, rfl, h3, z3⟩ := trodAll_cons z2
  obtain ⟨v4, vs4, d4, ds4, p4, o4, rfl, rfl, rfl, h4, z4⟩ := trodAll_cons z3
  obtain ⟨rfl, rfl, rfl⟩ := trodAll_nil z4
  obtain rfl : args = #[v0, v1, v2, v3, v4] := by cases args; simp_all
  obtain ⟨rfl, rfl⟩ := trodVars_none hV
  obtain ⟨A0, n0, c0, rfl⟩ := okWide_slice Tryd.underlying33 (hval 0 33 v0 rfl rfl)
  have k0 := h0
  have lt0 : ∀ x ∈ p0, x.block < W.heap.size := by obtain ⟨m, hm⟩ := k0; exact DataW.trod_lt m _ _ _ hm
  have s0 := Sh.ints (ok_of_Trod (sh := .slice 1 (.int .u8)) (t := 33) ⟨by decide, 5, Tryd.underlying33, by kernel_rfl, Tryd.underlying5⟩ h0)
  obtain ⟨_, _, _, l0, e0, b0, g0, r0, f0, q0⟩ := s0
  injection e0 with e0a e0b e0c
  subst e0a e0b e0c
  obtain ⟨a1, rfl, rfl, rfl, f1⟩ := open_int Tryd.underlying5 (hval 1 5 v1 rfl rfl) h1
  obtain ⟨A2, n2, c2, rfl⟩ := okWide_slice Tryd.underlying33 (hval 2 33 v2 rfl rfl)
  have k2 := h2
  have lt2 : ∀ x ∈ p2, x.block < W.heap.size := by obtain ⟨m, hm⟩ := k2; exact DataW.trod_lt m _ _ _ hm
  have s2 := Sh.ints (ok_of_Trod (sh := .slice 1 (.int .u8)) (t := 33) ⟨by decide, 5, Tryd.underlying33, by kernel_rfl, Tryd.underlying5⟩ h2)
  obtain ⟨_, _, _, l2, e2, b2, g2, r2, f2, q2⟩ := s2
  injection e2 with e2a e2b e2c
  subst e2a e2b e2c
  obtain ⟨a3, rfl, rfl, rfl, f3⟩ := open_int Tryd.underlying3 (hval 3 3 v3 rfl rfl) h3
  obtain ⟨A4, n4, c4, rfl⟩ := okWide_slice Tryd.underlying34 (hval 4 34 v4 rfl rfl)
  have k4 := h4
  have lt4 : ∀ x ∈ p4, x.block < W.heap.size := by obtain ⟨m, hm⟩ := k4; exact DataW.trod_lt m _ _ _ hm
  have s4 := ok_of_Trod (sh := .slice 1 (.slice 1 (.int .u8))) (t := 34) ⟨by decide, 33, Tryd.underlying34, by kernel_rfl, ⟨by decide, 5, Tryd.underlying33, by kernel_rfl, Tryd.underlying5⟩⟩ h4
  clear hA0 hval0 hA
  refine (shareTells_walk A0 n0 c0 l0 a1 A2 n2 c2 l2 a3 A4 n4 c4 _ W b0 g0 r0 f0 f1 b2 g2 r2 f2 f3 s4 hH).mono fun e W' ⟨he, bel⟩ => ?_
  subst he
  exact ⟨_, rfl, _, _, _, [], _, [], hW', trodAll_mk1 (shut_bool Tryd.underlying4 _), (trodAll_cons_mk (Below.trod laidOut (by kernel_rfl) (of_decide_eq_true (by kernel_rfl)) k0 bel lt0) (trodAll_cons_mk (shut_int Tryd.underlying5 f1) (trodAll_cons_mk (Below.trod laidOut (by kernel_rfl) (of_decide_eq_true (by kernel_rfl)) k2 bel lt2) (trodAll_cons_mk (shut_int Tryd.underlying3 f3) (trodAll_cons_mk (Below.trod laidOut (by kernel_rfl) (of_decide_eq_true (by kernel_rfl)) k4 bel lt4) trodAll_mk0))))), rfl, bel.frame _, fun h => by cases h⟩
theorem laidIs : Rows.shareTellsRow.laid = [("errors.errorType", .iface "internal/reflectlite.rtype" (.agg [.ptr (.lit (.string [101, 114, 114, 111, 114]))]))] := by kernel_rfl
theorem halves {W : World} (h : laidMetH Tryd.prog Rows.shareTellsRow.laid W) : laidMet Tryd.prog [] W ∧ handlesMet Tryd.prog [("errors.errorType", .iface "internal/reflectlite.rtype" (.agg [.ptr (.lit (.string [101, 114, 114, 111, 114]))]))] W := by
  rw [laidIs] at h
  exact h
theorem hET : Tryd.prog.globalNamed "errors.errorType" = some 0 := by kernel_rfl
theorem hRT : (Tryd.prog.cutTypes.find? (·.1 == "internal/reflectlite.rtype")).map (·.2) = some 79 := by kernel_rfl
theorem oneRow : ((List.range 122).filter fun t => Tryd.prog.rowNamed t [101, 114, 114, 111, 114]) = [26] := by kernel_rfl
theorem sizeIs : Tryd.prog.types.size = 122 := by kernel_rfl
theorem handleW {W : World} (h0 : laidMetH Tryd.prog Rows.shareTellsRow.laid W) : Hdl W := by
  obtain ⟨name, u, ty, e1, e2, e3, e4, e5⟩ := (halves h0).2 _ (List.mem_singleton.2 rfl)
  have en : name = [101, 114, 114, 111, 114] := (Option.some.inj e1).symm
  subst en
  obtain rfl := Option.some.inj (hRT.symm.trans e2)
  have hm : ty ∈ (List.range 122).filter fun t => Tryd.prog.rowNamed t [101, 114, 114, 111, 114] := List.mem_filter.2 ⟨List.mem_range.2 (by rw [← sizeIs]; exact e3), e4⟩
  rw [oneRow] at hm
  obtain rfl := List.mem_singleton.1 hm
  have hh : typeHandle Tryd.prog 26 = .pointer (some ⟨1, 26, none⟩) := by kernel_rfl
  rw [hh] at e5
  have hc : W.cell? ⟨0, 0, none⟩ = some (.iface 79 (.agg #[.pointer (some ⟨1, 26, none⟩)])) := by simpa using World.var?_cell hET e5 0
  exact ⟨hc, World.block_lt_of_cell? W ⟨0, 0, none⟩ hc⟩
noncomputable def laidHeap (os : Os) : Array Obj :=
  ((World.holding Tryd.prog os ⟨#[], #[], []⟩).heap).modify 0 (fun
      | .cells _ t frozen => .cells #[.iface 79 (.agg #[.pointer (some ⟨1, 26, none⟩)])] t frozen
      | o => o)
noncomputable def laidWorld (os : Os) : World := { World.holding Tryd.prog os ⟨#[], #[], []⟩ with heap := laidHeap os }
theorem laid_met (os : Os) : laidMetH Tryd.prog Rows.shareTellsRow.laid ((laidWorld os).forCall (fun _ _ => 0) ⟨#[], #[.slice none 0 0, .int .u8 0, .slice none 0 0, .int .i64 0, .slice none 0 0], []⟩).memory :=
  laidMetH_of_parts (laidMet_nil _ _) (by kernel_rfl)
theorem reads (os : Os) {H : Type} (enc : TypeId × Value → H) : ∃ places, DataW.whole enc Tryd.prog ((laidWorld os).forCall (fun _ _ => 0) ⟨#[], #[.slice none 0 0, .int .u8 0, .slice none 0 0, .int .i64 0, .slice none 0 0], []⟩).memory Tryd.f4.params.toList Rows.shareTellsSpec.vars false #[.slice none 0 0, .int .u8 0, .slice none 0 0, .int .i64 0, .slice none 0 0].toList 8 = some ([.nil, .lit (.int .u8 0), .nil, .lit (.int .i64 0), .nil], [], places) :=
  ⟨[], by kernel_rfl⟩
set_option maxRecDepth 100000 in
theorem lifted (os : Os) (started : os.Started) (H : Type) (enc : TypeId × Value → H) (F : Stop.Interp) :
    ReturnsInHanded {} Tryd.checked os 4 .any ((OpenSpec.ofChange Rows.shareTellsSpec).preRow enc Tryd.prog Tryd.f4 Rows.shareTellsRow.domain false Rows.shareTellsRow.laid) (((OpenSpec.ofChange Rows.shareTellsSpec).at F).post enc Tryd.prog Tryd.f4 false true false false) := by
  obtain ⟨places, hx⟩ := reads os enc
  refine returnsInHanded_of_row (C := Tryd.checked) (s := OpenSpec.ofChange Rows.shareTellsSpec) own started (by kernel_rfl) Tryd.func4
    (witness_row_at (enc := enc) (C := Tryd.checked) false (laidWorld os) #[.slice none 0 0, .int .u8 0, .slice none 0 0, .int .i64 0, .slice none 0 0] rfl (by kernel_rfl) (by kernel_rfl) (by kernel_rfl)
      (OpenSpec.preRow_of_cond 8 hx (by kernel_rfl) (fun k hk => by cases hk) (by kernel_rfl) (laid_met os))) ?_
  intro W base args ds gs before hval hW _ hcond _ hL _ _
  exact contract H enc W base args ds gs before hval hW  (handleW hL)
theorem rowSaid : Rows.ShareTellsSaid :=
  OpenClaim.holds_of_cond 4 Tryd.f4 rfl rfl rfl rfl rfl rfl rfl ⟨rfl, rfl, rfl, rfl, rfl⟩ rfl rfl rfl rfl rfl (by kernel_rfl) Tryd.func4 (by kernel_rfl)
    (of_decide_eq_true (by kernel_rfl)) (by unfold Func.isWrapper; first | (rw [if_pos (by decide +kernel)]; kernel_rfl) | (rw [if_neg (by decide +kernel)]; exact ⟨rfl, rfl⟩))
    (fun os started H enc _ F => by rw [OpenClaim.pre_eq_preRow]; exact lifted os started H enc F)
theorem plain (f : FuncId) (fn : Func) (hf : Tryd.pinned.checked.prog.funcNamed "moneyer/moneyerlaw7.ShareTells" = some f) (hfn : Tryd.pinned.checked.prog.funcs[f]? = some fn) :
    true = Tryd.pinned.checked.prog.looks [] ∧ ∀ (j : Nat) t, fn.params[j]? = some t → Tryd.pinned.checked.prog.wantsStandIn t = false := by
  obtain rfl : f = 4 := Option.some.inj ((show Tryd.prog.funcNamed "moneyer/moneyerlaw7.ShareTells" = some 4 by kernel_rfl).symm.trans hf) |>.symm
  obtain rfl : fn = Tryd.f4 := (Option.some.inj (Tryd.func4.symm.trans hfn)).symm
  refine ⟨by kernel_rfl, fun j t ht => ?_⟩
  rw [Tryd.params4] at ht
  have hm := Array.mem_of_getElem? ht
  have hx : t = 33 ∨ t = 5 ∨ t = 33 ∨ t = 3 ∨ t = 34 := by simpa using hm
  rcases hx with rfl | rfl | rfl | rfl | rfl
  · exact (show Tryd.prog.wantsStandIn 33 = false by kernel_rfl)
  · exact (show Tryd.prog.wantsStandIn 5 = false by kernel_rfl)
  · exact (show Tryd.prog.wantsStandIn 33 = false by kernel_rfl)
  · exact (show Tryd.prog.wantsStandIn 3 = false by kernel_rfl)
  · exact (show Tryd.prog.wantsStandIn 34 = false by kernel_rfl)
theorem proved : Rows.ShareTellsCardSaid :=
  Claim7.holds_tied_plain_at .later [] _ _ _ _ rowSaid (fun _ h => by cases h) (by kernel_rfl) (fun _ h => by cases h) shareTells_row_tie rfl ⟨rfl, rfl⟩ (by kernel_rfl) rfl plain (by kernel_rfl)
#print axioms proved
end Go.Proofs.YtilaipdpbcfhkaaDoor.shareTells
