/- TopBackup: whatever the arguments, the law returns true and every argument reads as it did. -/
import Derived.Test.YtibhhbjbfdbmdaaDoorOpen
import Derived.Test.YtibhhbjbfdbmdaaDoorBackupW
import Derived.Test.YtibhhbjbfdbmdaaDoorCards
import Derived.Test.YtibhhbjbfdbmdaaDoorTie
import Derived.Deep.DeepHandedRow
import Derived.Lib.LaidTab
import Derived.LaidHandle
import Derived.LaidLaws
import Derived.WalkKit
import Derived.ProofKit
import Derived.OpenShut
import Derived.ChangeOld
import Derived.Below
import Derived.JoinedCond
namespace Go.Proofs.YtibhhbjbfdbmdaaDoor.topBackup
open Go.ChangeShapes Go.WideShapes Go.ChangeAt Go.RowKit Go.Mny
theorem own : ownKnob Tryd.prog.godebug = none := by kernel_rfl
theorem laidOut : laidOutB Tryd.prog = true := by kernel_rfl
/- The walk:
theorem topBackup_walk (l0 : List Int) (a1 : Int) (A2 : Option Addr) (n2 c2 m2 : Nat) (A3 : Option Addr) (n3 c3 : Nat) (l3 : List Int) (A4 : Option Addr) (n4 c4 m4 : Nat) (w : World) (q0 : l0.length = 32) (f0 : ∀ z ∈ l0, (Lit.int .u8 z).wf = true) (f1 : (Lit.int .i64 a1).wf = true) (s2 : Sh.ok w w.heap.size (.slice 1 (.slice 1 (.int .u8))) m2 [.slice A2 n2 c2]) (b3 : n3 ≤ c3) (g3 : c3 ≤ maxLen) (r3 : Row w w.heap.size 1 A3 n3 (l3.map (Value.int .i64))) (f3 : ∀ z ∈ l3, (Lit.int .i64 z).wf = true) (s4 : Sh.ok w w.heap.size (.slice 36 (coinSh)) m4 [.slice A4 n4 c4])  (hL : Laid w) (h0 : 1 < w.heap.size) (hH : Hdl w) :
    Calls Tryd.prog 3 #[.agg (l0.map (Value.int .u8)).toArray, .int .i64 a1, .slice A2 n2 c2, .slice A3 n3 c3, .slice A4 n4 c4] w fun e w' => e = .returned (.bool true) ∧ Below w.heap.size w w' -/
set_option maxRecDepth 100000 in
theorem contract (H : Type) (enc : TypeId × Value → H) (W : World) (base : Nat) (args : Array Value) (ds gs : List (DataW H)) (before : List MemPlace)
    (hval0 : ∀ (j : Nat) t v, Tryd.f3.params[j]? = some t → args[j]? = some v → Value.okWide Tryd.prog W .any base t v)
    (hW : DataW.Whole enc Tryd.prog Tryd.f3.params.toList Rows.topBackupSpec.vars false W args.toList ds gs before) (hL : Laid W) (hSZ : 1 < W.heap.size) (hH : Hdl W) :
    Calls Tryd.prog 3 args W fun e W' => ∃ v, e = .returned v ∧ Rows.topBackupSpec.post enc Tryd.prog Tryd.f3 false true false false W args v W' := by
  have hval : ∀ (j : Nat) t v, Tryd.f3.params[j]? = some t → args[j]? = some v → Value.okWide Tryd.prog W .any base t v := hval0
  have hW' := hW
  obtain ⟨p, q, hA0, hV, rfl, hfz, hnd⟩ := hW
  have hA : DataW.TrodAll enc Tryd.prog W 0 (fun _ => true) true Tryd.f3.params.toList args.toList ds p := hA0
  rw [Tryd.params3] at hA hval
  obtain ⟨v0, vs0, d0, ds0, p0, o0, hargs, rfl, rfl, h0, z0⟩ := trodAll_cons hA
  obtain ⟨v1, vs1, d1, ds1, p1, o1, rfl, rfl, rfl, h1, z1⟩ := trodAll_cons z0
  obtain ⟨v2, vs2, d2, ds2, p2, o2, rfl, rfl, rfl, h2, z2⟩ := trodAll_cons z1
  obtain ⟨v3, vs3, d3, ds3, p3, o3, rfl, rfl, rfl, h3, z3⟩ := trodAll_cons z2
  obtain ⟨v4, vs4, d4, ds4, p4, o4, rfl, rfl, rfl, h4, z4⟩ := trodAll_cons z3
  obtain ⟨rfl, rfl, rfl⟩ := trodAll_nil z4
  obtain rfl : args = #[v0, v1, v2, v3, v4] := by cases args; simp_all
  obtain ⟨rfl, rfl⟩ := trodVars_none hV
  obtain ⟨l0, e0, q0, f0⟩ := Sh.digest (ok_of_Trod (sh := .arr 32 1 (.int .u8)) (t := 23) ⟨by kernel_rfl, 5, Tryd.underlying23, by kernel_rfl, Tryd.underlying5⟩ h0)
  have y0 := agg_of e0 (by rw [List.length_map, q0]; decide)
  subst y0
  obtain ⟨a1, rfl, rfl, rfl, f1⟩ := open_int Tryd.underlying3 (hval 1 3 v1 rfl rfl) h1
  obtain ⟨A2, n2, c2, rfl⟩ := okWide_slice Tryd.underlying24 (hval 2 24 v2 rfl rfl)
  have k2 := h2
  have lt2 : ∀ x ∈ p2, x.block < W.heap.size := by obtain ⟨m, hm⟩ := k2; exact DataW.trod_lt m _ _ _ hm
  have s2 := ok_of_Trod (sh := .slice 1 (.slice 1 (.int .u8))) (t := 24) ⟨by decide, 37, Tryd.underlying24, by kernel_rfl, ⟨by decide, 5, Tryd.underlying37, by kernel_rfl, Tryd.underlying5⟩⟩ h2
  obtain ⟨A3, n3, c3, rfl⟩ := okWide_slice Tryd.underlying25 (hval 3 25 v3 rfl rfl)
  have k3 := h3
  have lt3 : ∀ x ∈ p3, x.block < W.heap.size := by obtain ⟨m, hm⟩ := k3; exact DataW.trod_lt m _ _ _ hm
  have s3 := Sh.ints (ok_of_Trod (sh := .slice 1 (.int .i64)) (t := 25) ⟨by decide, 3, Tryd.underlying25, by kernel_rfl, Tryd.underlying3⟩ h3)
  obtain ⟨_, _, _, l3, e3, b3, g3, r3, f3, q3⟩ := s3
  injection e3 with e3a e3b e3c
  subst e3a e3b e3c
  obtain ⟨A4, n4, c4, rfl⟩ := okWide_slice Tryd.underlying26 (hval 4 26 v4 rfl rfl)
  have k4 := h4
  have lt4 : ∀ x ∈ p4, x.block < W.heap.size := by obtain ⟨m, hm⟩ := k4; exact DataW.trod_lt m _ _ _ hm
  have s4 := ok_of_Trod (sh := .slice 36 (coinSh)) (t := 26) ⟨by decide, 86, Tryd.underlying26, by kernel_rfl, coinSh_is⟩ h4
  clear hA0 hval0 hA
  refine (topBackup_walk l0 a1 A2 n2 c2 _ A3 n3 c3 l3 A4 n4 c4 _ W q0 f0 f1 s2 b3 g3 r3 f3 s4 hL hSZ hH).mono fun e W' ⟨he, bel⟩ => ?_
  subst he
  have lt0 : ∀ x ∈ p0, x.block < W.heap.size := by obtain ⟨m, hm⟩ := h0; exact DataW.trod_lt m _ _ _ hm
  exact ⟨_, rfl, _, _, _, [], _, [], hW', trodAll_mk1 (shut_bool Tryd.underlying4 _), (trodAll_cons_mk (Below.trod laidOut (by kernel_rfl) (of_decide_eq_true (by kernel_rfl)) h0 bel lt0) (trodAll_cons_mk (shut_int Tryd.underlying3 f1) (trodAll_cons_mk (Below.trod laidOut (by kernel_rfl) (of_decide_eq_true (by kernel_rfl)) k2 bel lt2) (trodAll_cons_mk (Below.trod laidOut (by kernel_rfl) (of_decide_eq_true (by kernel_rfl)) k3 bel lt3) (trodAll_cons_mk (Below.trod laidOut (by kernel_rfl) (of_decide_eq_true (by kernel_rfl)) k4 bel lt4) trodAll_mk0))))), rfl, bel.frame _, fun h => by cases h⟩
theorem laidIs : Rows.topBackupRow.laid = [("moneyer/sha.rounds", Lib.tabData .u32 (up Sh2.K)), ("errors.errorType", .iface "internal/reflectlite.rtype" (.agg [.ptr (.lit (.string [101, 114, 114, 111, 114]))]))] := by kernel_rfl
theorem halves {W : World} (h : laidMetH Tryd.prog Rows.topBackupRow.laid W) : laidMet Tryd.prog [("moneyer/sha.rounds", Lib.tabData .u32 (up Sh2.K))] W ∧ handlesMet Tryd.prog [("errors.errorType", .iface "internal/reflectlite.rtype" (.agg [.ptr (.lit (.string [101, 114, 114, 111, 114]))]))] W := by
  rw [laidIs] at h
  exact h
theorem gTab : Tryd.prog.globalNamed "moneyer/sha.rounds" = some 1 := by kernel_rfl
theorem gTabType : (Tryd.prog.globals[1]?).map (·.type) = some 154 := by kernel_rfl
theorem cellsT : Tryd.prog.cellsOf 154 = 64 := by kernel_rfl
theorem cellsE : Tryd.prog.cellsOf 125 = 1 := by kernel_rfl
theorem table {W : World} (h : laidMetH Tryd.prog Rows.topBackupRow.laid W) : Lib.TabIs Tryd.prog W "moneyer/sha.rounds" .u32 (up Sh2.K) :=
  Lib.tabIs_of_head (rest := []) gTab gTabType Tryd.underlying154 Tryd.underlying125 cellsE cellsT (halves h).1
theorem laidW {W : World} (h : laidMetH Tryd.prog Rows.topBackupRow.laid W) : Laid W ∧ 1 < W.heap.size := by
  have ht := table h
  have hc : ∀ j, j < 64 → W.cell? ⟨1, j, none⟩ = (((up Sh2.K).map (Value.int .u32))[j]?) := fun j hj => by
    have hl : j < (up Sh2.K).length := hj
    rw [ht.cell gTab j hl, List.getElem?_map, List.getElem?_eq_getElem hl]; simp [List.getElem?_eq_getElem hl]
  refine ⟨fun j v hv => ?_, World.block_lt_of_cell? W ⟨1, 0, none⟩ (hc 0 (by decide))⟩
  have hj := (List.getElem?_eq_some_iff.1 hv).1
  rw [Nat.zero_add, hc j hj]; exact hv
theorem hET : Tryd.prog.globalNamed "errors.errorType" = some 0 := by kernel_rfl
theorem hRT : (Tryd.prog.cutTypes.find? (·.1 == "internal/reflectlite.rtype")).map (·.2) = some 141 := by kernel_rfl
theorem oneRow : ((List.range 187).filter fun t => Tryd.prog.rowNamed t [101, 114, 114, 111, 114]) = [34] := by kernel_rfl
theorem sizeIs : Tryd.prog.types.size = 187 := by kernel_rfl
theorem handleW {W : World} (h0 : laidMetH Tryd.prog Rows.topBackupRow.laid W) : Hdl W := by
  obtain ⟨name, u, ty, e1, e2, e3, e4, e5⟩ := (halves h0).2 _ (List.mem_singleton.2 rfl)
  have en : name = [101, 114, 114, 111, 114] := (Option.some.inj e1).symm
  subst en
  obtain rfl := Option.some.inj (hRT.symm.trans e2)
  have hm : ty ∈ (List.range 187).filter fun t => Tryd.prog.rowNamed t [101, 114, 114, 111, 114] := List.mem_filter.2 ⟨List.mem_range.2 (by rw [← sizeIs]; exact e3), e4⟩
  rw [oneRow] at hm
  obtain rfl := List.mem_singleton.1 hm
  have hh : typeHandle Tryd.prog 34 = .pointer (some ⟨3, 34, none⟩) := by kernel_rfl
  rw [hh] at e5
  have hc : W.cell? ⟨0, 0, none⟩ = some (.iface 141 (.agg #[.pointer (some ⟨3, 34, none⟩)])) := by simpa using World.var?_cell hET e5 0
  exact ⟨hc, World.block_lt_of_cell? W ⟨0, 0, none⟩ hc⟩
noncomputable def laidHeap (os : Os) : Array Obj :=
  ((World.holding Tryd.prog os ⟨#[], #[], []⟩).heap.modify 1 (fun
      | .cells _ t frozen => .cells ((up Sh2.K).map (Value.int .u32)).toArray t frozen
      | o => o)).modify 0 (fun
      | .cells _ t frozen => .cells #[.iface 141 (.agg #[.pointer (some ⟨3, 34, none⟩)])] t frozen
      | o => o)
noncomputable def laidWorld (os : Os) : World := { World.holding Tryd.prog os ⟨#[], #[], []⟩ with heap := laidHeap os }
theorem laid_met (os : Os) : laidMetH Tryd.prog Rows.topBackupRow.laid ((laidWorld os).forCall (fun _ _ => 0) ⟨#[], #[.agg (Array.replicate 32 (.int .u8 0)), .int .i64 0, .slice none 0 0, .slice none 0 0, .slice none 0 0], []⟩).memory :=
  laidMetH_of_parts (laidMet_of_run' 8 (by kernel_rfl) (by kernel_rfl)) (by kernel_rfl)
theorem reads (os : Os) {H : Type} (enc : TypeId × Value → H) : ∃ places, DataW.whole enc Tryd.prog ((laidWorld os).forCall (fun _ _ => 0) ⟨#[], #[.agg (Array.replicate 32 (.int .u8 0)), .int .i64 0, .slice none 0 0, .slice none 0 0, .slice none 0 0], []⟩).memory Tryd.f3.params.toList Rows.topBackupSpec.vars false #[.agg (Array.replicate 32 (.int .u8 0)), .int .i64 0, .slice none 0 0, .slice none 0 0, .slice none 0 0].toList 8 = some ([.agg (List.replicate 32 (.lit (.int .u8 0))), .lit (.int .i64 0), .nil, .nil, .nil], [], places) :=
  ⟨[], by kernel_rfl⟩
set_option maxRecDepth 100000 in
theorem lifted (os : Os) (started : os.Started) (H : Type) (enc : TypeId × Value → H) (F : Stop.Interp) :
    ReturnsInHanded {} Tryd.checked os 3 .any ((OpenSpec.ofChange Rows.topBackupSpec).preRow enc Tryd.prog Tryd.f3 Rows.topBackupRow.domain false Rows.topBackupRow.laid) (((OpenSpec.ofChange Rows.topBackupSpec).at F).post enc Tryd.prog Tryd.f3 false true false false) := by
  obtain ⟨places, hx⟩ := reads os enc
  refine returnsInHanded_of_row (C := Tryd.checked) (s := OpenSpec.ofChange Rows.topBackupSpec) own started (by kernel_rfl) Tryd.func3
    (witness_row_at (enc := enc) (C := Tryd.checked) false (laidWorld os) #[.agg (Array.replicate 32 (.int .u8 0)), .int .i64 0, .slice none 0 0, .slice none 0 0, .slice none 0 0] rfl (by kernel_rfl) (by kernel_rfl) (by kernel_rfl)
      (OpenSpec.preRow_of_cond 8 hx (by kernel_rfl) (fun k hk => by cases hk) (by kernel_rfl) (laid_met os))) ?_
  intro W base args ds gs before hval hW _ hcond _ hL _ _
  exact contract H enc W base args ds gs before hval hW (laidW hL).1 (laidW hL).2 (handleW hL)
theorem rowSaid : Rows.TopBackupSaid :=
  OpenClaim.holds_of_cond 3 Tryd.f3 rfl rfl rfl rfl rfl rfl rfl ⟨rfl, rfl, rfl, rfl, rfl⟩ rfl rfl rfl rfl rfl (by kernel_rfl) Tryd.func3 (by kernel_rfl)
    (of_decide_eq_true (by kernel_rfl)) (by unfold Func.isWrapper; first | (rw [if_pos (by decide +kernel)]; kernel_rfl) | (rw [if_neg (by decide +kernel)]; exact ⟨rfl, rfl⟩))
    (fun os started H enc _ F => by rw [OpenClaim.pre_eq_preRow]; exact lifted os started H enc F)
theorem plain (f : FuncId) (fn : Func) (hf : Tryd.pinned.checked.prog.funcNamed "moneyer/moneyertop.TopBackup" = some f) (hfn : Tryd.pinned.checked.prog.funcs[f]? = some fn) :
    true = Tryd.pinned.checked.prog.looks [] ∧ ∀ (j : Nat) t, fn.params[j]? = some t → Tryd.pinned.checked.prog.wantsStandIn t = false := by
  obtain rfl : f = 3 := Option.some.inj ((show Tryd.prog.funcNamed "moneyer/moneyertop.TopBackup" = some 3 by kernel_rfl).symm.trans hf) |>.symm
  obtain rfl : fn = Tryd.f3 := (Option.some.inj (Tryd.func3.symm.trans hfn)).symm
  refine ⟨by kernel_rfl, fun j t ht => ?_⟩
  rw [Tryd.params3] at ht
  have hm := Array.mem_of_getElem? ht
  have hx : t = 23 ∨ t = 3 ∨ t = 24 ∨ t = 25 ∨ t = 26 := by simpa using hm
  rcases hx with rfl | rfl | rfl | rfl | rfl
  · exact (show Tryd.prog.wantsStandIn 23 = false by kernel_rfl)
  · exact (show Tryd.prog.wantsStandIn 3 = false by kernel_rfl)
  · exact (show Tryd.prog.wantsStandIn 24 = false by kernel_rfl)
  · exact (show Tryd.prog.wantsStandIn 25 = false by kernel_rfl)
  · exact (show Tryd.prog.wantsStandIn 26 = false by kernel_rfl)
theorem proved : Rows.TopBackupCardSaid :=
  Claim7.holds_tied_plain_at .later [] _ _ _ _ rowSaid (fun _ h => by cases h) (by kernel_rfl) (fun _ h => by cases h) topBackup_row_tie rfl ⟨rfl, rfl⟩ (by kernel_rfl) rfl plain (by kernel_rfl)
#print axioms proved
end Go.Proofs.YtibhhbjbfdbmdaaDoor.topBackup
