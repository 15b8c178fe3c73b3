/- BidAwards: whatever the arguments, the law returns true and every argument reads as it did. -/
import Derived.Test.YtlaoijnlemgdfaaDoorOpen
import Derived.Test.YtlaoijnlemgdfaaDoorBidAwardsW
import Derived.Test.YtlaoijnlemgdfaaDoorCards
import Derived.Test.YtlaoijnlemgdfaaDoorTie
import Derived.Deep.DeepHandedRow
import Derived.Lib.LaidTab
import Derived.LaidHandle
import Derived.LaidLaws
import Derived.WalkKit
import Derived.ProofKit
import Derived.OpenShut
import Derived.ChangeOld
import Derived.Below
import Derived.JoinedCond
namespace Go.Proofs.YtlaoijnlemgdfaaDoor.bidAwards
open Go.ChangeShapes Go.WideShapes Go.ChangeAt Go.RowKit Go.Mny
theorem own : ownKnob Tryd.prog.godebug = none := by kernel_rfl
theorem laidOut : laidOutB Tryd.prog = true := by kernel_rfl
/- The walk:
theorem bidAwards_walk (A0 : Option Addr) (n0 c0 m0 : Nat) (A1 : Option Addr) (n1 c1 m1 : Nat) (a2 : Int) (w : World) (s0 : Sh.ok w w.heap.size (.slice 32 (.arr 32 1 (.int .u8))) m0 [.slice A0 n0 c0]) (s1 : Sh.ok w w.heap.size (.slice 34 (bidSh)) m1 [.slice A1 n1 c1]) (f2 : (Lit.int .i64 a2).wf = true)  (hL : Laid w) (h0 : 1 < w.heap.size) (hH : Hdl w) :
    Calls Tryd.prog 9 #[.slice A0 n0 c0, .slice A1 n1 c1, .int .i64 a2] w fun e w' => e = .returned (.bool true) ∧ Below w.heap.size w w' -/
set_option maxRecDepth 100000 in
theorem contract (H : Type) (enc : TypeId × Value → H) (W : World) (base : Nat) (args : Array Value) (ds gs : List (DataW H)) (before : List MemPlace)
    (hval0 : ∀ (j : Nat) t v, Tryd.f9.params[j]? = some t → args[j]? = some v → Value.okWide Tryd.prog W .any base t v)
    (hW : DataW.Whole enc Tryd.prog Tryd.f9.params.toList Rows.bidAwardsSpec.vars false W args.toList ds gs before) (hL : Laid W) (hSZ : 1 < W.heap.size) (hH : Hdl W) :
    Calls Tryd.prog 9 args W fun e W' => ∃ v, e = .returned v ∧ Rows.bidAwardsSpec.post enc Tryd.prog Tryd.f9 false true false false W args v W' := by
  have hval : ∀ (j : Nat) t v, Tryd.f9.params[j]? = some t → args[j]? = some v → Value.okWide Tryd.prog W .any base t v := hval0
  have hW' := hW
  obtain ⟨p, q, hA0, hV, rfl, hfz, hnd⟩ := hW
  have hA : DataW.TrodAll enc Tryd.prog W 0 (fun _ => true) true Tryd.f9.params.toList args.toList ds p := hA0
  rw [Tryd.params9] at hA hval
  obtain ⟨v0, vs0, d0, ds0, p0, o0, hargs, rfl, rfl, h0, z0⟩ := trodAll_cons hA
  obtain ⟨v1, vs1, d1, ds1, p1, o1, rfl, rfl, rfl, h1, z1⟩ := trodAll_cons z0
  obtain ⟨v2, vs2, d2, ds2, p2, o2, rfl, rfl, rfl, h2, z2⟩ := trodAll_cons z1
  obtain ⟨rfl, rfl, rfl⟩ := trodAll_nil z2
  obtain rfl : args = #[v0, v1, v2] := by cases args; simp_all
  obtain ⟨rfl, rfl⟩ := trodVars_none hV
  obtain ⟨A0, n0, c0, rfl⟩ := okWide_slice Tryd.underlying43 (hval 0 43 v0 rfl rfl)
  have k0 := h0
  have lt0 : ∀ x ∈ p0, x.block < W.heap.size := by obtain ⟨m, hm⟩ := k0; exact DataW.trod_lt m _ _ _ hm
  have s0 := ok_of_Trod (sh := .slice 32 (.arr 32 1 (.int .u8))) (t := 43) ⟨by decide, 23, Tryd.underlying43, by kernel_rfl, ⟨by kernel_rfl, 5, Tryd.underlying23, by kernel_rfl, Tryd.underlying5⟩⟩ h0
  obtain ⟨A1, n1, c1, rfl⟩ := okWide_slice Tryd.underlying54 (hval 1 54 v1 rfl rfl)
  have k1 := h1
  have lt1 : ∀ x ∈ p1, x.block < W.heap.size := by obtain ⟨m, hm⟩ := k1; exact DataW.trod_lt m _ _ _ hm
  have s1 := ok_of_Trod (sh := .slice 34 (bidSh)) (t := 54) ⟨by decide, 62, Tryd.underlying54, by kernel_rfl, bidSh_is⟩ h1
  obtain ⟨a2, rfl, rfl, rfl, f2⟩ := open_int Tryd.underlying3 (hval 2 3 v2 rfl rfl) h2
  clear hA0 hval0 hA
  refine (bidAwards_walk A0 n0 c0 _ A1 n1 c1 _ a2 W s0 s1 f2 hL hSZ hH).mono fun e W' ⟨he, bel⟩ => ?_
  subst he
  exact ⟨_, rfl, _, _, _, [], _, [], hW', trodAll_mk1 (shut_bool Tryd.underlying4 _), (trodAll_cons_mk (Below.trod laidOut (by kernel_rfl) (of_decide_eq_true (by kernel_rfl)) k0 bel lt0) (trodAll_cons_mk (Below.trod laidOut (by kernel_rfl) (of_decide_eq_true (by kernel_rfl)) k1 bel lt1) (trodAll_cons_mk (shut_int Tryd.underlying3 f2) trodAll_mk0))), rfl, bel.frame _, fun h => by cases h⟩
theorem laidIs : Rows.bidAwardsRow.laid = [("moneyer/sha.rounds", Lib.tabData .u32 (up Sh2.K)), ("errors.errorType", .iface "internal/reflectlite.rtype" (.agg [.ptr (.lit (.string [101, 114, 114, 111, 114]))]))] := by kernel_rfl
theorem halves {W : World} (h : laidMetH Tryd.prog Rows.bidAwardsRow.laid W) : laidMet Tryd.prog [("moneyer/sha.rounds", Lib.tabData .u32 (up Sh2.K))] W ∧ handlesMet Tryd.prog [("errors.errorType", .iface "internal/reflectlite.rtype" (.agg [.ptr (.lit (.string [101, 114, 114, 111, 114]))]))] W := by
  rw [laidIs] at h
  exact h
theorem gTab : Tryd.prog.globalNamed "moneyer/sha.rounds" = some 1 := by kernel_rfl
theorem gTabType : (Tryd.prog.globals[1]?).map (·.type) = some 125 := by kernel_rfl
theorem cellsT : Tryd.prog.cellsOf 125 = 64 := by kernel_rfl
theorem cellsE : Tryd.prog.cellsOf 97 = 1 := by kernel_rfl
theorem table {W : World} (h : laidMetH Tryd.prog Rows.bidAwardsRow.laid W) : Lib.TabIs Tryd.prog W "moneyer/sha.rounds" .u32 (up Sh2.K) :=
  Lib.tabIs_of_head (rest := []) gTab gTabType Tryd.underlying125 Tryd.underlying97 cellsE cellsT (halves h).1
theorem laidW {W : World} (h : laidMetH Tryd.prog Rows.bidAwardsRow.laid W) : Laid W ∧ 1 < W.heap.size := by
  have ht := table h
  have hc : ∀ j, j < 64 → W.cell? ⟨1, j, none⟩ = (((up Sh2.K).map (Value.int .u32))[j]?) := fun j hj => by
    have hl : j < (up Sh2.K).length := hj
    rw [ht.cell gTab j hl, List.getElem?_map, List.getElem?_eq_getElem hl]; simp [List.getElem?_eq_getElem hl]
  refine ⟨fun j v hv => ?_, World.block_lt_of_cell? W ⟨1, 0, none⟩ (hc 0 (by decide))⟩
  have hj := (List.getElem?_eq_some_iff.1 hv).1
  rw [Nat.zero_add, hc j hj]; exact hv
theorem hET : Tryd.prog.globalNamed "errors.errorType" = some 0 := by kernel_rfl
theorem hRT : (Tryd.prog.cutTypes.find? (·.1 == "internal/reflectlite.rtype")).map (·.2) = some 129 := by kernel_rfl
theorem oneRow : ((List.range 179).filter fun t => Tryd.prog.rowNamed t [101, 114, 114, 111, 114]) = [34] := by kernel_rfl
theorem sizeIs : Tryd.prog.types.size = 179 := by kernel_rfl
theorem handleW {W : World} (h0 : laidMetH Tryd.prog Rows.bidAwardsRow.laid W) : Hdl W := by
  obtain ⟨name, u, ty, e1, e2, e3, e4, e5⟩ := (halves h0).2 _ (List.mem_singleton.2 rfl)
  have en : name = [101, 114, 114, 111, 114] := (Option.some.inj e1).symm
  subst en
  obtain rfl := Option.some.inj (hRT.symm.trans e2)
  have hm : ty ∈ (List.range 179).filter fun t => Tryd.prog.rowNamed t [101, 114, 114, 111, 114] := List.mem_filter.2 ⟨List.mem_range.2 (by rw [← sizeIs]; exact e3), e4⟩
  rw [oneRow] at hm
  obtain rfl := List.mem_singleton.1 hm
  have hh : typeHandle Tryd.prog 34 = .pointer (some ⟨2, 34, none⟩) := by kernel_rfl
  rw [hh] at e5
  have hc : W.cell? ⟨0, 0, none⟩ = some (.iface 129 (.agg #[.pointer (some ⟨2, 34, none⟩)])) := by simpa using World.var?_cell hET e5 0
  exact ⟨hc, World.block_lt_of_cell? W ⟨0, 0, none⟩ hc⟩
noncomputable def laidHeap (os : Os) : Array Obj :=
  ((World.holding Tryd.prog os ⟨#[], #[], []⟩).heap.modify 1 (fun
      | .cells _ t frozen => .cells ((up Sh2.K).map (Value.int .u32)).toArray t frozen
      | o => o)).modify 0 (fun
      | .cells _ t frozen => .cells #[.iface 129 (.agg #[.pointer (some ⟨2, 34, none⟩)])] t frozen
      | o => o)
noncomputable def laidWorld (os : Os) : World := { World.holding Tryd.prog os ⟨#[], #[], []⟩ with heap := laidHeap os }
theorem laid_met (os : Os) : laidMetH Tryd.prog Rows.bidAwardsRow.laid ((laidWorld os).forCall (fun _ _ => 0) ⟨#[], #[.slice none 0 0, .slice none 0 0, .int .i64 0], []⟩).memory :=
  laidMetH_of_parts (laidMet_of_run' 8 (by kernel_rfl) (by kernel_rfl)) (by kernel_rfl)
theorem reads (os : Os) {H : Type} (enc : TypeId × Value → H) : ∃ places, DataW.whole enc Tryd.prog ((laidWorld os).forCall (fun _ _ => 0) ⟨#[], #[.slice none 0 0, .slice none 0 0, .int .i64 0], []⟩).memory Tryd.f9.params.toList Rows.bidAwardsSpec.vars false #[.slice none 0 0, .slice none 0 0, .int .i64 0].toList 8 = some ([.nil, .nil, .lit (.int .i64 0)], [], places) :=
  ⟨[], by kernel_rfl⟩
set_option maxRecDepth 100000 in
theorem lifted (os : Os) (started : os.Started) (H : Type) (enc : TypeId × Value → H) (F : Stop.Interp) :
    ReturnsInHanded {} Tryd.checked os 9 .any ((OpenSpec.ofChange Rows.bidAwardsSpec).preRow enc Tryd.prog Tryd.f9 Rows.bidAwardsRow.domain false Rows.bidAwardsRow.laid) (((OpenSpec.ofChange Rows.bidAwardsSpec).at F).post enc Tryd.prog Tryd.f9 false true false false) := by
  obtain ⟨places, hx⟩ := reads os enc
  refine returnsInHanded_of_row (C := Tryd.checked) (s := OpenSpec.ofChange Rows.bidAwardsSpec) own started (by kernel_rfl) Tryd.func9
    (witness_row_at (enc := enc) (C := Tryd.checked) false (laidWorld os) #[.slice none 0 0, .slice none 0 0, .int .i64 0] rfl (by kernel_rfl) (by kernel_rfl) (by kernel_rfl)
      (OpenSpec.preRow_of_cond 8 hx (by kernel_rfl) (fun k hk => by cases hk) (by kernel_rfl) (laid_met os))) ?_
  intro W base args ds gs before hval hW _ hcond _ hL _ _
  exact contract H enc W base args ds gs before hval hW (laidW hL).1 (laidW hL).2 (handleW hL)
theorem rowSaid : Rows.BidAwardsSaid :=
  OpenClaim.holds_of_cond 9 Tryd.f9 rfl rfl rfl rfl rfl rfl rfl ⟨rfl, rfl, rfl, rfl, rfl⟩ rfl rfl rfl rfl rfl (by kernel_rfl) Tryd.func9 (by kernel_rfl)
    (of_decide_eq_true (by kernel_rfl)) (by unfold Func.isWrapper; first | (rw [if_pos (by decide +kernel)]; kernel_rfl) | (rw [if_neg (by decide +kernel)]; exact ⟨rfl, rfl⟩))
    (fun os started H enc _ F => by rw [OpenClaim.pre_eq_preRow]; exact lifted os started H enc F)
theorem plain (f : FuncId) (fn : Func) (hf : Tryd.pinned.checked.prog.funcNamed "moneyer/moneyerlaw7.BidAwards" = some f) (hfn : Tryd.pinned.checked.prog.funcs[f]? = some fn) :
    true = Tryd.pinned.checked.prog.looks [] ∧ ∀ (j : Nat) t, fn.params[j]? = some t → Tryd.pinned.checked.prog.wantsStandIn t = false := by
  obtain rfl : f = 9 := Option.some.inj ((show Tryd.prog.funcNamed "moneyer/moneyerlaw7.BidAwards" = some 9 by kernel_rfl).symm.trans hf) |>.symm
  obtain rfl : fn = Tryd.f9 := (Option.some.inj (Tryd.func9.symm.trans hfn)).symm
  refine ⟨by kernel_rfl, fun j t ht => ?_⟩
  rw [Tryd.params9] at ht
  have hm := Array.mem_of_getElem? ht
  have hx : t = 43 ∨ t = 54 ∨ t = 3 := by simpa using hm
  rcases hx with rfl | rfl | rfl
  · exact (show Tryd.prog.wantsStandIn 43 = false by kernel_rfl)
  · exact (show Tryd.prog.wantsStandIn 54 = false by kernel_rfl)
  · exact (show Tryd.prog.wantsStandIn 3 = false by kernel_rfl)
theorem proved : Rows.BidAwardsCardSaid :=
  Claim7.holds_tied_plain_at .later [] _ _ _ _ rowSaid (fun _ h => by cases h) (by kernel_rfl) (fun _ h => by cases h) bidAwards_row_tie rfl ⟨rfl, rfl⟩ (by kernel_rfl) rfl plain (by kernel_rfl)
#print axioms proved
end Go.Proofs.YtlaoijnlemgdfaaDoor.bidAwards
