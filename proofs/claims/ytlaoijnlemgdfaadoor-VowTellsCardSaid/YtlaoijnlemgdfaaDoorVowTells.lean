/- VowTells: whatever the arguments, the law returns true and every argument reads as it did. -/
import Derived.Test.YtlaoijnlemgdfaaDoorOpen
import Derived.Test.YtlaoijnlemgdfaaDoorReach
import Derived.Test.YtlaoijnlemgdfaaDoorVowLawW
import Derived.Test.YtlaoijnlemgdfaaDoorCards
import Derived.Test.YtlaoijnlemgdfaaDoorTie
import Derived.Deep.DeepHandedRow
import Derived.Lib.LaidTab
import Derived.LaidHandle
import Derived.LaidLaws
import Derived.WalkKit
import Derived.ProofKit
import Derived.OpenShut
import Derived.ChangeOld
import Derived.Below
import Derived.JoinedCond
namespace Go.Proofs.YtlaoijnlemgdfaaDoor.vowTells
open Go.ChangeShapes Go.WideShapes Go.ChangeAt Go.RowKit Go.Mny
theorem own : ownKnob Tryd.prog.godebug = none := by kernel_rfl
theorem laidOut : laidOutB Tryd.prog = true := by kernel_rfl
/- The walk:
theorem vowTells_walk (l0 : List Int) (A1 : Option Addr) (n1 c1 : Nat) (l1 : List Int) (l2 : List Int) (w : World) (q0 : l0.length = 32) (f0 : ∀ z ∈ l0, (Lit.int .u8 z).wf = true) (b1 : n1 ≤ c1) (g1 : c1 ≤ maxLen) (r1 : Row w w.heap.size 1 A1 n1 (l1.map (Value.int .u8))) (f1 : ∀ z ∈ l1, (Lit.int .u8 z).wf = true) (q2 : l2.length = 32) (f2 : ∀ z ∈ l2, (Lit.int .u8 z).wf = true) (rb1 : n1 * 1 ≤ 140737488351232) (hL : Laid w) (h0 : 1 < w.heap.size) :
    Calls Tryd.prog 3 #[.agg (l0.map (Value.int .u8)).toArray, .slice A1 n1 c1, .agg (l2.map (Value.int .u8)).toArray] w fun e w' => e = .returned (.bool true) ∧ Below w.heap.size w w' -/
set_option maxRecDepth 100000 in
theorem contract (H : Type) (enc : TypeId × Value → H) (W : World) (base : Nat) (args : Array Value) (ds gs : List (DataW H)) (before : List MemPlace)
    (hval0 : ∀ (j : Nat) t v, Tryd.f3.params[j]? = some t → args[j]? = some v → Value.okWide Tryd.prog W .any base t v)
    (hW : DataW.Whole enc Tryd.prog Tryd.f3.params.toList Rows.vowTellsSpec.vars false W args.toList ds gs before) (hRB : (DataW.weightsEach Tryd.prog (Tryd.f3.params.toList ++ Rows.vowTellsSpec.plain.varTypes Tryd.prog) (ds ++ gs)).all (· ≤ reachBytes) = true) (hL : Laid W) (hSZ : 1 < W.heap.size) :
    Calls Tryd.prog 3 args W fun e W' => ∃ v, e = .returned v ∧ Rows.vowTellsSpec.post enc Tryd.prog Tryd.f3 false true false false W args v W' := by
  have hval : ∀ (j : Nat) t v, Tryd.f3.params[j]? = some t → args[j]? = some v → Value.okWide Tryd.prog W .any base t v := hval0
  have hW' := hW
  obtain ⟨p, q, hA0, hV, rfl, hfz, hnd⟩ := hW
  have hA : DataW.TrodAll enc Tryd.prog W 0 (fun _ => true) true Tryd.f3.params.toList args.toList ds p := hA0
  rw [Tryd.params3] at hA hval
  obtain ⟨v0, vs0, d0, ds0, p0, o0, hargs, rfl, rfl, h0, z0⟩ := trodAll_cons hA
  obtain ⟨v1, vs1, d1, ds1, p1, o1, rfl, rfl, rfl, h1, z1⟩ := trodAll_cons z0
  obtain ⟨v2, vs2, d2, ds2, p2, o2, rfl, rfl, rfl, h2, z2⟩ := trodAll_cons z1
  obtain ⟨rfl, rfl, rfl⟩ := trodAll_nil z2
  obtain rfl : args = #[v0, v1, v2] := by cases args; simp_all
  obtain ⟨rfl, rfl⟩ := trodVars_none hV
  obtain ⟨l0, e0, q0, f0⟩ := Sh.digest (ok_of_Trod (sh := .arr 32 1 (.int .u8)) (t := 23) ⟨by kernel_rfl, 5, Tryd.underlying23, by kernel_rfl, Tryd.underlying5⟩ h0)
  have y0 := agg_of e0 (by rw [List.length_map, q0]; decide)
  subst y0
  obtain ⟨A1, n1, c1, rfl⟩ := okWide_slice Tryd.underlying24 (hval 1 24 v1 rfl rfl)
  have k1 := h1
  have lt1 : ∀ x ∈ p1, x.block < W.heap.size := by obtain ⟨m, hm⟩ := k1; exact DataW.trod_lt m _ _ _ hm
  have s1 := Sh.ints (ok_of_Trod (sh := .slice 1 (.int .u8)) (t := 24) ⟨by decide, 5, Tryd.underlying24, by kernel_rfl, Tryd.underlying5⟩ h1)
  obtain ⟨_, _, _, l1, e1, b1, g1, r1, f1, q1⟩ := s1
  injection e1 with e1a e1b e1c
  subst e1a e1b e1c
  obtain ⟨l2, e2, q2, f2⟩ := Sh.digest (ok_of_Trod (sh := .arr 32 1 (.int .u8)) (t := 23) ⟨by kernel_rfl, 5, Tryd.underlying23, by kernel_rfl, Tryd.underlying5⟩ h2)
  have y2 := agg_of e2 (by rw [List.length_map, q2]; decide)
  subst y2
  clear hA0 hval0 hA
  have rb1 : n1 * 1 ≤ 140737488351232 := reach_len (P := Tryd.prog) (j := 1) Tryd.underlying24 h1 hRB (by kernel_rfl) rfl
  refine (vowTells_walk l0 A1 n1 c1 l1 l2 W q0 f0 b1 g1 r1 f1 q2 f2 rb1 hL hSZ).mono fun e W' ⟨he, bel⟩ => ?_
  subst he
  have lt0 : ∀ x ∈ p0, x.block < W.heap.size := by obtain ⟨m, hm⟩ := h0; exact DataW.trod_lt m _ _ _ hm
  have lt2 : ∀ x ∈ p2, x.block < W.heap.size := by obtain ⟨m, hm⟩ := h2; exact DataW.trod_lt m _ _ _ hm
  exact ⟨_, rfl, _, _, _, [], _, [], hW', trodAll_mk1 (shut_bool Tryd.underlying4 _), (trodAll_cons_mk (Below.trod laidOut (by kernel_rfl) (of_decide_eq_true (by kernel_rfl)) h0 bel lt0) (trodAll_cons_mk (Below.trod laidOut (by kernel_rfl) (of_decide_eq_true (by kernel_rfl)) k1 bel lt1) (trodAll_cons_mk (Below.trod laidOut (by kernel_rfl) (of_decide_eq_true (by kernel_rfl)) h2 bel lt2) trodAll_mk0))), rfl, bel.frame _, fun h => by cases h⟩
theorem laidIs : Rows.vowTellsRow.laid = [("moneyer/sha.rounds", Lib.tabData .u32 (up Sh2.K))] := by kernel_rfl
theorem halves {W : World} (h : laidMetH Tryd.prog Rows.vowTellsRow.laid W) : laidMet Tryd.prog [("moneyer/sha.rounds", Lib.tabData .u32 (up Sh2.K))] W := by
  rw [laidIs] at h
  exact h
theorem gTab : Tryd.prog.globalNamed "moneyer/sha.rounds" = some 1 := by kernel_rfl
theorem gTabType : (Tryd.prog.globals[1]?).map (·.type) = some 125 := by kernel_rfl
theorem cellsT : Tryd.prog.cellsOf 125 = 64 := by kernel_rfl
theorem cellsE : Tryd.prog.cellsOf 97 = 1 := by kernel_rfl
theorem table {W : World} (h : laidMetH Tryd.prog Rows.vowTellsRow.laid W) : Lib.TabIs Tryd.prog W "moneyer/sha.rounds" .u32 (up Sh2.K) :=
  Lib.tabIs_of_head (rest := []) gTab gTabType Tryd.underlying125 Tryd.underlying97 cellsE cellsT (halves h)
theorem laidW {W : World} (h : laidMetH Tryd.prog Rows.vowTellsRow.laid W) : Laid W ∧ 1 < W.heap.size := by
  have ht := table h
  have hc : ∀ j, j < 64 → W.cell? ⟨1, j, none⟩ = (((up Sh2.K).map (Value.int .u32))[j]?) := fun j hj => by
    have hl : j < (up Sh2.K).length := hj
    rw [ht.cell gTab j hl, List.getElem?_map, List.getElem?_eq_getElem hl]; simp [List.getElem?_eq_getElem hl]
  refine ⟨fun j v hv => ?_, World.block_lt_of_cell? W ⟨1, 0, none⟩ (hc 0 (by decide))⟩
  have hj := (List.getElem?_eq_some_iff.1 hv).1
  rw [Nat.zero_add, hc j hj]; exact hv
noncomputable def laidHeap (os : Os) : Array Obj :=
  (World.holding Tryd.prog os ⟨#[], #[], []⟩).heap.modify 1 (fun
      | .cells _ t frozen => .cells ((up Sh2.K).map (Value.int .u32)).toArray t frozen
      | o => o)
noncomputable def laidWorld (os : Os) : World := { World.holding Tryd.prog os ⟨#[], #[], []⟩ with heap := laidHeap os }
theorem laid_met (os : Os) : laidMet Tryd.prog Rows.vowTellsRow.laid ((laidWorld os).forCall (fun _ _ => 0) ⟨#[], #[.agg (Array.replicate 32 (.int .u8 0)), .slice none 0 0, .agg (Array.replicate 32 (.int .u8 0))], []⟩).memory :=
  laidMet_of_run' 8 (by kernel_rfl) (by kernel_rfl)
theorem reads (os : Os) {H : Type} (enc : TypeId × Value → H) : ∃ places, DataW.whole enc Tryd.prog ((laidWorld os).forCall (fun _ _ => 0) ⟨#[], #[.agg (Array.replicate 32 (.int .u8 0)), .slice none 0 0, .agg (Array.replicate 32 (.int .u8 0))], []⟩).memory Tryd.f3.params.toList Rows.vowTellsSpec.vars false #[.agg (Array.replicate 32 (.int .u8 0)), .slice none 0 0, .agg (Array.replicate 32 (.int .u8 0))].toList 8 = some ([.agg (List.replicate 32 (.lit (.int .u8 0))), .nil, .agg (List.replicate 32 (.lit (.int .u8 0)))], [], places) :=
  ⟨[], by kernel_rfl⟩
set_option maxRecDepth 100000 in
theorem lifted (os : Os) (started : os.Started) (H : Type) (enc : TypeId × Value → H) (F : Stop.Interp) :
    ReturnsInHanded {} Tryd.checked os 3 .any ((OpenSpec.ofChange Rows.vowTellsSpec).preRow enc Tryd.prog Tryd.f3 Rows.vowTellsRow.domain false Rows.vowTellsRow.laid) (((OpenSpec.ofChange Rows.vowTellsSpec).at F).post enc Tryd.prog Tryd.f3 false true false false) := by
  obtain ⟨places, hx⟩ := reads os enc
  refine returnsInHanded_of_row (C := Tryd.checked) (s := OpenSpec.ofChange Rows.vowTellsSpec) own started (by kernel_rfl) Tryd.func3
    (witness_row_at (enc := enc) (C := Tryd.checked) false (laidWorld os) #[.agg (Array.replicate 32 (.int .u8 0)), .slice none 0 0, .agg (Array.replicate 32 (.int .u8 0))] rfl (by kernel_rfl) (by kernel_rfl) (by kernel_rfl)
      (OpenSpec.preRow_of_cond 8 hx (by kernel_rfl) (fun k hk => by cases hk) (by kernel_rfl) (laid_met os))) ?_
  intro W base args ds gs before hval hW _ hcond hRB hL _ _
  exact contract H enc W base args ds gs before hval hW hRB (laidW hL).1 (laidW hL).2
theorem rowSaid : Rows.VowTellsSaid :=
  OpenClaim.holds_of_cond 3 Tryd.f3 rfl rfl rfl rfl rfl rfl rfl ⟨rfl, rfl, rfl, rfl, rfl⟩ rfl rfl rfl rfl rfl (by kernel_rfl) Tryd.func3 (by kernel_rfl)
    (of_decide_eq_true (by kernel_rfl)) (by unfold Func.isWrapper; first | (rw [if_pos (by decide +kernel)]; kernel_rfl) | (rw [if_neg (by decide +kernel)]; exact ⟨rfl, rfl⟩))
    (fun os started H enc _ F => by rw [OpenClaim.pre_eq_preRow]; exact lifted os started H enc F)
theorem plain (f : FuncId) (fn : Func) (hf : Tryd.pinned.checked.prog.funcNamed "moneyer/moneyerlaw7.VowTells" = some f) (hfn : Tryd.pinned.checked.prog.funcs[f]? = some fn) :
    true = Tryd.pinned.checked.prog.looks [] ∧ ∀ (j : Nat) t, fn.params[j]? = some t → Tryd.pinned.checked.prog.wantsStandIn t = false := by
  obtain rfl : f = 3 := Option.some.inj ((show Tryd.prog.funcNamed "moneyer/moneyerlaw7.VowTells" = some 3 by kernel_rfl).symm.trans hf) |>.symm
  obtain rfl : fn = Tryd.f3 := (Option.some.inj (Tryd.func3.symm.trans hfn)).symm
  refine ⟨by kernel_rfl, fun j t ht => ?_⟩
  rw [Tryd.params3] at ht
  have hm := Array.mem_of_getElem? ht
  have hx : t = 23 ∨ t = 24 ∨ t = 23 := by simpa using hm
  rcases hx with rfl | rfl | rfl
  · exact (show Tryd.prog.wantsStandIn 23 = false by kernel_rfl)
  · exact (show Tryd.prog.wantsStandIn 24 = false by kernel_rfl)
  · exact (show Tryd.prog.wantsStandIn 23 = false by kernel_rfl)
theorem proved : Rows.VowTellsCardSaid :=
  Claim7.holds_tied_plain_at .later [] _ _ _ _ rowSaid (fun _ h => by cases h) (by kernel_rfl) (fun _ h => by cases h) vowTells_row_tie rfl ⟨rfl, rfl⟩ (by kernel_rfl) rfl plain (by kernel_rfl)
#print axioms proved
end Go.Proofs.YtlaoijnlemgdfaaDoor.vowTells
