/- SizeApart: whatever the arguments, the law returns true and every argument reads as it did. -/
import Derived.Test.YtopddinpmiefjaaOpen
import Derived.Test.YtopddinpmiefjaaReach
import Derived.Test.YtopddinpmiefjaaSizeApartW
import Derived.WalkKit
import Derived.ProofKit
import Derived.OpenShut
import Derived.ChangeOld
import Derived.Below
import Derived.JoinedCond
namespace Go.Proofs.Ytopddinpmiefjaa.sizeApart
open Go.ChangeShapes Go.WideShapes Go.ChangeAt Go.RowKit Go.Mny
theorem own : ownKnob Try.prog.godebug = none := by kernel_rfl
theorem laidOut : laidOutB Try.prog = true := by kernel_rfl
/- The walk:
theorem sizeApart_walk (a0 : Int) (a1 : Int) (A2 : Option Addr) (n2 c2 : Nat) (l2 : List Int) (A3 : Option Addr) (n3 c3 : Nat) (l3 : List Int) (w : World) (f0 : (Lit.int .i64 a0).wf = true) (f1 : (Lit.int .i64 a1).wf = true) (b2 : n2 ≤ c2) (g2 : c2 ≤ maxLen) (r2 : Row w w.heap.size 1 A2 n2 (l2.map (Value.int .u8))) (f2 : ∀ z ∈ l2, (Lit.int .u8 z).wf = true) (b3 : n3 ≤ c3) (g3 : c3 ≤ maxLen) (r3 : Row w w.heap.size 1 A3 n3 (l3.map (Value.int .u8))) (f3 : ∀ z ∈ l3, (Lit.int .u8 z).wf = true) (rb2 : n2 * 1 ≤ 140737488351232) (rb3 : n3 * 1 ≤ 140737488351232) :
    Calls Try.prog 7 #[.int .i64 a0, .int .i64 a1, .slice A2 n2 c2, .slice A3 n3 c3] w fun e w' => e = .returned (.bool true) ∧ Below w.heap.size w w' -/
set_option maxRecDepth 100000 in
theorem contract (H : Type) (enc : TypeId × Value → H) (W : World) (base : Nat) (args : Array Value) (ds gs : List (DataW H)) (before : List MemPlace)
    (hval0 : ∀ (j : Nat) t v, Try.f7.params[j]? = some t → args[j]? = some v → Value.okWide Try.prog W .any base t v)
    (hW : DataW.Whole enc Try.prog Try.f7.params.toList Rows.sizeApartSpec.vars false W args.toList ds gs before) (hRB : (DataW.weightsEach Try.prog (Try.f7.params.toList ++ Rows.sizeApartSpec.plain.varTypes Try.prog) (ds ++ gs)).all (· ≤ reachBytes) = true) :
    Calls Try.prog 7 args W fun e W' => ∃ v, e = .returned v ∧ Rows.sizeApartSpec.post enc Try.prog Try.f7 false true false false W args v W' := by
  have hval : ∀ (j : Nat) t v, Try.f7.params[j]? = some t → args[j]? = some v → Value.okWide Try.prog W .any base t v := hval0
  have hW' := hW
  obtain ⟨p, q, hA0, hV, rfl, hfz, hnd⟩ := hW
  have hA : DataW.TrodAll enc Try.prog W 0 (fun _ => true) true Try.f7.params.toList args.toList ds p := hA0
  rw [Try.params7] at hA hval
  obtain ⟨v0, vs0, d0, ds0, p0, o0, hargs, rfl, rfl, h0, z0⟩ := trodAll_cons hA
  obtain ⟨v1, vs1, d1, ds1, p1, o1, rfl, rfl, rfl, h1, z1⟩ := trodAll_cons z0
  obtain ⟨v2, vs2, d2, ds2, p2, o2, rfl, rfl, rfl, h2, z2⟩ := trodAll_cons z1
  obtain ⟨v3, vs3, d3, ds3, p3, o3, rfl, rfl, rfl, h3, z3⟩ := trodAll_cons z2
  obtain ⟨rfl, rfl, rfl⟩ := trodAll_nil z3
  obtain rfl : args = #[v0, v1, v2, v3] := by cases args; simp_all
  obtain ⟨rfl, rfl⟩ := trodVars_none hV
  obtain ⟨a0, rfl, rfl, rfl, f0⟩ := open_int Try.underlying3 (hval 0 3 v0 rfl rfl) h0
  obtain ⟨a1, rfl, rfl, rfl, f1⟩ := open_int Try.underlying3 (hval 1 3 v1 rfl rfl) h1
  obtain ⟨A2, n2, c2, rfl⟩ := okWide_slice Try.underlying38 (hval 2 38 v2 rfl rfl)
  have k2 := h2
  have lt2 : ∀ x ∈ p2, x.block < W.heap.size := by obtain ⟨m, hm⟩ := k2; exact DataW.trod_lt m _ _ _ hm
  have s2 := Sh.ints (ok_of_Trod (sh := .slice 1 (.int .u8)) (t := 38) ⟨by decide, 5, Try.underlying38, by kernel_rfl, Try.underlying5⟩ h2)
  obtain ⟨_, _, _, l2, e2, b2, g2, r2, f2, q2⟩ := s2
  injection e2 with e2a e2b e2c
  subst e2a e2b e2c
  obtain ⟨A3, n3, c3, rfl⟩ := okWide_slice Try.underlying38 (hval 3 38 v3 rfl rfl)
  have k3 := h3
  have lt3 : ∀ x ∈ p3, x.block < W.heap.size := by obtain ⟨m, hm⟩ := k3; exact DataW.trod_lt m _ _ _ hm
  have s3 := Sh.ints (ok_of_Trod (sh := .slice 1 (.int .u8)) (t := 38) ⟨by decide, 5, Try.underlying38, by kernel_rfl, Try.underlying5⟩ h3)
  obtain ⟨_, _, _, l3, e3, b3, g3, r3, f3, q3⟩ := s3
  injection e3 with e3a e3b e3c
  subst e3a e3b e3c
  clear hA0 hval0 hA
  have rb2 : n2 * 1 ≤ 140737488351232 := reach_len (P := Try.prog) (j := 2) Try.underlying38 h2 hRB (by kernel_rfl) rfl
  have rb3 : n3 * 1 ≤ 140737488351232 := reach_len (P := Try.prog) (j := 3) Try.underlying38 h3 hRB (by kernel_rfl) rfl
  refine (sizeApart_walk a0 a1 A2 n2 c2 l2 A3 n3 c3 l3 W f0 f1 b2 g2 r2 f2 b3 g3 r3 f3 rb2 rb3).mono fun e W' ⟨he, bel⟩ => ?_
  subst he
  exact ⟨_, rfl, _, _, _, [], _, [], hW', trodAll_mk1 (shut_bool Try.underlying4 _), (trodAll_cons_mk (shut_int Try.underlying3 f0) (trodAll_cons_mk (shut_int Try.underlying3 f1) (trodAll_cons_mk (Below.trod laidOut (by kernel_rfl) (of_decide_eq_true (by kernel_rfl)) k2 bel lt2) (trodAll_cons_mk (Below.trod laidOut (by kernel_rfl) (of_decide_eq_true (by kernel_rfl)) k3 bel lt3) trodAll_mk0)))), rfl, bel.frame _, fun h => by cases h⟩
set_option maxRecDepth 100000 in
theorem lifted (os : Os) (started : os.Started) (H : Type) (enc : TypeId × Value → H) :
    ReturnsInHanded {} Try.checked os 7 .any (Rows.sizeApartSpec.pre6 enc Try.prog Try.f7 Rows.sizeApartRow.domain false) (Rows.sizeApartSpec.post enc Try.prog Try.f7 false true false false) := by
  refine returnsInHanded_of_change_sized (C := Try.checked) own started (by kernel_rfl) Try.func7
    (ChangeSpec.witness6 (enc := enc) (C := Try.checked) false ⟨#[], #[.int .i64 0, .int .i64 0, .slice none 0 0, .slice none 0 0], []⟩ 8 (by kernel_rfl) (by kernel_rfl) (by kernel_rfl) (by kernel_rfl)) ?_
  intro W base args ds gs before hval hW _ hRB _
  exact contract H enc W base args ds gs before hval hW hRB
theorem proved : Rows.SizeApartSaid :=
  OpenClaim.holds_of_wide 7 Try.f7 rfl rfl rfl rfl rfl rfl rfl ⟨rfl, rfl, rfl, rfl, rfl⟩ rfl rfl rfl rfl rfl (by kernel_rfl) Try.func7 (by kernel_rfl)
    (of_decide_eq_true (by kernel_rfl)) (by unfold Func.isWrapper; first | (rw [if_pos (by decide +kernel)]; kernel_rfl) | (rw [if_neg (by decide +kernel)]; exact ⟨rfl, rfl⟩))
    (fun os started H enc _ => lifted os started H enc)
#print axioms proved
end Go.Proofs.Ytopddinpmiefjaa.sizeApart
