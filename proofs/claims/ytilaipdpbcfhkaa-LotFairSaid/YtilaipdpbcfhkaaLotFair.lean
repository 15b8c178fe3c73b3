/- LotFair: whatever the arguments, the law returns true and every argument reads as it did. -/
import Derived.Test.YtilaipdpbcfhkaaOpen
import Derived.Test.YtilaipdpbcfhkaaReach
import Derived.Test.YtilaipdpbcfhkaaLotFairW
import Derived.WalkKit
import Derived.ProofKit
import Derived.OpenShut
import Derived.ChangeOld
import Derived.Below
import Derived.JoinedCond
namespace Go.Proofs.Ytilaipdpbcfhkaa.lotFair
open Go.ChangeShapes Go.WideShapes Go.ChangeAt Go.RowKit Go.Mny
theorem own : ownKnob Try.prog.godebug = none := by kernel_rfl
theorem laidOut : laidOutB Try.prog = true := by kernel_rfl
/- The walk:
theorem lotFair_walk (A0 : Option Addr) (n0 c0 m0 : Nat) (a1 : Int) (l2 : List Int) (l3 : List Int) (w : World) (s0 : Sh.ok w w.heap.size (.slice 32 (.arr 32 1 (.int .u8))) m0 [.slice A0 n0 c0]) (f1 : (Lit.int .i64 a1).wf = true) (q2 : l2.length = 32) (f2 : ∀ z ∈ l2, (Lit.int .u8 z).wf = true) (q3 : l3.length = 32) (f3 : ∀ z ∈ l3, (Lit.int .u8 z).wf = true) (rb0 : n0 * 32 ≤ 140737488351232) :
    Calls Try.prog 3 #[.slice A0 n0 c0, .int .i64 a1, .agg (l2.map (Value.int .u8)).toArray, .agg (l3.map (Value.int .u8)).toArray] w fun e w' => e = .returned (.bool true) ∧ Below w.heap.size w w' -/
set_option maxRecDepth 100000 in
theorem contract (H : Type) (enc : TypeId × Value → H) (W : World) (base : Nat) (args : Array Value) (ds gs : List (DataW H)) (before : List MemPlace)
    (hval0 : ∀ (j : Nat) t v, Try.f3.params[j]? = some t → args[j]? = some v → Value.okWide Try.prog W .any base t v)
    (hW : DataW.Whole enc Try.prog Try.f3.params.toList Rows.lotFairSpec.vars false W args.toList ds gs before) (hRB : (DataW.weightsEach Try.prog (Try.f3.params.toList ++ Rows.lotFairSpec.plain.varTypes Try.prog) (ds ++ gs)).all (· ≤ reachBytes) = true) :
    Calls Try.prog 3 args W fun e W' => ∃ v, e = .returned v ∧ Rows.lotFairSpec.post enc Try.prog Try.f3 false true false false W args v W' := by
  have hval : ∀ (j : Nat) t v, Try.f3.params[j]? = some t → args[j]? = some v → Value.okWide Try.prog W .any base t v := hval0
  have hW' := hW
  obtain ⟨p, q, hA0, hV, rfl, hfz, hnd⟩ := hW
  have hA : DataW.TrodAll enc Try.prog W 0 (fun _ => true) true Try.f3.params.toList args.toList ds p := hA0
  rw [Try.params3] at hA hval
  obtain ⟨v0, vs0, d0, ds0, p0, o0, hargs, rfl, rfl, h0, z0⟩ := trodAll_cons hA
  obtain ⟨v1, vs1, d1, ds1, p1, o1, rfl, rfl, rfl, h1, z1⟩ := trodAll_cons z0
  obtain ⟨v2, vs2, d2, ds2, p2, o2, rfl, rfl, rfl, h2, z2⟩ := trodAll_cons z1
  obtain ⟨v3, vs3, d3, ds3, p3, o3, rfl, rfl, rfl, h3, z3⟩ := trodAll_cons z2
  obtain ⟨rfl, rfl, rfl⟩ := trodAll_nil z3
  obtain rfl : args = #[v0, v1, v2, v3] := by cases args; simp_all
  obtain ⟨rfl, rfl⟩ := trodVars_none hV
  obtain ⟨A0, n0, c0, rfl⟩ := okWide_slice Try.underlying22 (hval 0 22 v0 rfl rfl)
  have k0 := h0
  have lt0 : ∀ x ∈ p0, x.block < W.heap.size := by obtain ⟨m, hm⟩ := k0; exact DataW.trod_lt m _ _ _ hm
  have s0 := ok_of_Trod (sh := .slice 32 (.arr 32 1 (.int .u8))) (t := 22) ⟨by decide, 24, Try.underlying22, by kernel_rfl, ⟨by kernel_rfl, 5, Try.underlying24, by kernel_rfl, Try.underlying5⟩⟩ h0
  obtain ⟨a1, rfl, rfl, rfl, f1⟩ := open_int Try.underlying3 (hval 1 3 v1 rfl rfl) h1
  obtain ⟨l2, e2, q2, f2⟩ := Sh.digest (ok_of_Trod (sh := .arr 32 1 (.int .u8)) (t := 24) ⟨by kernel_rfl, 5, Try.underlying24, by kernel_rfl, Try.underlying5⟩ h2)
  have y2 := agg_of e2 (by rw [List.length_map, q2]; decide)
  subst y2
  obtain ⟨l3, e3, q3, f3⟩ := Sh.digest (ok_of_Trod (sh := .arr 32 1 (.int .u8)) (t := 24) ⟨by kernel_rfl, 5, Try.underlying24, by kernel_rfl, Try.underlying5⟩ h3)
  have y3 := agg_of e3 (by rw [List.length_map, q3]; decide)
  subst y3
  clear hA0 hval0 hA
  have rb0 : n0 * 32 ≤ 140737488351232 := reach_len (P := Try.prog) (j := 0) Try.underlying22 h0 hRB (by kernel_rfl) rfl
  refine (lotFair_walk A0 n0 c0 _ a1 l2 l3 W s0 f1 q2 f2 q3 f3 rb0).mono fun e W' ⟨he, bel⟩ => ?_
  subst he
  have lt2 : ∀ x ∈ p2, x.block < W.heap.size := by obtain ⟨m, hm⟩ := h2; exact DataW.trod_lt m _ _ _ hm
  have lt3 : ∀ x ∈ p3, x.block < W.heap.size := by obtain ⟨m, hm⟩ := h3; exact DataW.trod_lt m _ _ _ hm
  exact ⟨_, rfl, _, _, _, [], _, [], hW', trodAll_mk1 (shut_bool Try.underlying4 _), (trodAll_cons_mk (Below.trod laidOut (by kernel_rfl) (of_decide_eq_true (by kernel_rfl)) k0 bel lt0) (trodAll_cons_mk (shut_int Try.underlying3 f1) (trodAll_cons_mk (Below.trod laidOut (by kernel_rfl) (of_decide_eq_true (by kernel_rfl)) h2 bel lt2) (trodAll_cons_mk (Below.trod laidOut (by kernel_rfl) (of_decide_eq_true (by kernel_rfl)) h3 bel lt3) trodAll_mk0)))), rfl, bel.frame _, fun h => by cases h⟩
set_option maxRecDepth 100000 in
theorem lifted (os : Os) (started : os.Started) (H : Type) (enc : TypeId × Value → H) :
    ReturnsInHanded {} Try.checked os 3 .any (Rows.lotFairSpec.pre6 enc Try.prog Try.f3 Rows.lotFairRow.domain false) (Rows.lotFairSpec.post enc Try.prog Try.f3 false true false false) := by
  refine returnsInHanded_of_change_sized (C := Try.checked) own started (by kernel_rfl) Try.func3
    (ChangeSpec.witness6 (enc := enc) (C := Try.checked) false ⟨#[], #[.slice none 0 0, .int .i64 0, .agg (Array.replicate 32 (.int .u8 0)), .agg (Array.replicate 32 (.int .u8 0))], []⟩ 8 (by kernel_rfl) (by kernel_rfl) (by kernel_rfl) (by kernel_rfl)) ?_
  intro W base args ds gs before hval hW _ hRB _
  exact contract H enc W base args ds gs before hval hW hRB
theorem proved : Rows.LotFairSaid :=
  OpenClaim.holds_of_wide 3 Try.f3 rfl rfl rfl rfl rfl rfl rfl ⟨rfl, rfl, rfl, rfl, rfl⟩ rfl rfl rfl rfl rfl (by kernel_rfl) Try.func3 (by kernel_rfl)
    (of_decide_eq_true (by kernel_rfl)) (by unfold Func.isWrapper; first | (rw [if_pos (by decide +kernel)]; kernel_rfl) | (rw [if_neg (by decide +kernel)]; exact ⟨rfl, rfl⟩))
    (fun os started H enc _ => lifted os started H enc)
#print axioms proved
end Go.Proofs.Ytilaipdpbcfhkaa.lotFair
