/- ShareSums: whatever the arguments, the law returns true and every argument reads as it did. -/
import Derived.Test.YtilaipdpbcfhkaaOpen
import Derived.Test.YtilaipdpbcfhkaaShareSumsW
import Derived.WalkKit
import Derived.ProofKit
import Derived.OpenShut
import Derived.ChangeOld
import Derived.Below
import Derived.JoinedCond
namespace Go.Proofs.Ytilaipdpbcfhkaa.shareSums
open Go.ChangeShapes Go.WideShapes Go.ChangeAt Go.RowKit Go.Mny
theorem own : ownKnob Try.prog.godebug = none := by kernel_rfl
theorem laidOut : laidOutB Try.prog = true := by kernel_rfl
/- The walk:
theorem shareSums_walk (A0 : Option Addr) (n0 c0 : Nat) (l0 : List Int) (A1 : Option Addr) (n1 c1 : Nat) (l1 : List Int) (a2 : Int) (A3 : Option Addr) (n3 c3 m3 : Nat) (A4 : Option Addr) (n4 c4 m4 : Nat) (w : World) (b0 : n0 ≤ c0) (g0 : c0 ≤ maxLen) (r0 : Row w w.heap.size 1 A0 n0 (l0.map (Value.int .u8))) (f0 : ∀ z ∈ l0, (Lit.int .u8 z).wf = true) (b1 : n1 ≤ c1) (g1 : c1 ≤ maxLen) (r1 : Row w w.heap.size 1 A1 n1 (l1.map (Value.int .u8))) (f1 : ∀ z ∈ l1, (Lit.int .u8 z).wf = true) (f2 : (Lit.int .i64 a2).wf = true) (s3 : Sh.ok w w.heap.size (.slice 1 (.slice 1 (.int .u8))) m3 [.slice A3 n3 c3]) (s4 : Sh.ok w w.heap.size (.slice 1 (.slice 1 (.int .u8))) m4 [.slice A4 n4 c4])  :
    Calls Try.prog 8 #[.slice A0 n0 c0, .slice A1 n1 c1, .int .i64 a2, .slice A3 n3 c3, .slice A4 n4 c4] w fun e w' => e = .returned (.bool true) ∧ Below w.heap.size w w' -/
set_option maxRecDepth 100000 in
theorem contract (H : Type) (enc : TypeId × Value → H) (W : World) (base : Nat) (args : Array Value) (ds gs : List (DataW H)) (before : List MemPlace)
    (hval0 : ∀ (j : Nat) t v, Try.f8.params[j]? = some t → args[j]? = some v → Value.okWide Try.prog W .any base t v)
    (hW : DataW.Whole enc Try.prog Try.f8.params.toList Rows.shareSumsSpec.vars false W args.toList ds gs before) :
    Calls Try.prog 8 args W fun e W' => ∃ v, e = .returned v ∧ Rows.shareSumsSpec.post enc Try.prog Try.f8 false true false false W args v W' := by
  have hval : ∀ (j : Nat) t v, Try.f8.params[j]? = some t → args[j]? = some v → Value.okWide Try.prog W .any base t v := hval0
  have hW' := hW
  obtain ⟨p, q, hA0, hV, rfl, hfz, hnd⟩ := hW
  have hA : DataW.TrodAll enc Try.prog W 0 (fun _ => true) true Try.f8.params.toList args.toList ds p := hA0
  rw [Try.params8] at hA hval
  obtain ⟨v0, vs0, d0, ds0, p0, o0, hargs, rfl, rfl, h0, z0⟩ := trodAll_cons hA
  obtain ⟨v1, vs1, d1, ds1, p1, o1, rfl, rfl, rfl, h1, z1⟩ := trodAll_cons z0
  obtain ⟨v2, vs2, d2, ds2, p2, o2, rfl, rfl, rfl, h2, z2⟩ := trodAll_cons z1
  obtain ⟨v3, vs3, d3, ds3, p3, o3, rfl, rfl, rfl, h3, z3⟩ := trodAll_cons z2
  obtain ⟨v4, vs4, d4, ds4, p4, o4, rfl, rfl, rfl, h4, z4⟩ := trodAll_cons z3
  obtain ⟨rfl, rfl, rfl⟩ := trodAll_nil z4
  obtain rfl : args = #[v0, v1, v2, v3, v4] := by cases args; simp_all
  obtain ⟨rfl, rfl⟩ := trodVars_none hV
  obtain ⟨A0, n0, c0, rfl⟩ := okWide_slice Try.underlying35 (hval 0 35 v0 rfl rfl)
  have k0 := h0
  have lt0 : ∀ x ∈ p0, x.block < W.heap.size := by obtain ⟨m, hm⟩ := k0; exact DataW.trod_lt m _ _ _ hm
  have s0 := Sh.ints (ok_of_Trod (sh := .slice 1 (.int .u8)) (t := 35) ⟨by decide, 5, Try.underlying35, by kernel_rfl, Try.underlying5⟩ h0)
  obtain ⟨_, _, _, l0, e0, b0, g0, r0, f0, q0⟩ := s0
  injection e0 with e0a e0b e0c
  subst e0a e0b e0c
  obtain ⟨A1, n1, c1, rfl⟩ := okWide_slice Try.underlying35 (hval 1 35 v1 rfl rfl)
  have k1 := h1
  have lt1 : ∀ x ∈ p1, x.block < W.heap.size := by obtain ⟨m, hm⟩ := k1; exact DataW.trod_lt m _ _ _ hm
  have s1 := Sh.ints (ok_of_Trod (sh := .slice 1 (.int .u8)) (t := 35) ⟨by decide, 5, Try.underlying35, by kernel_rfl, Try.underlying5⟩ h1)
  obtain ⟨_, _, _, l1, e1, b1, g1, r1, f1, q1⟩ := s1
  injection e1 with e1a e1b e1c
  subst e1a e1b e1c
  obtain ⟨a2, rfl, rfl, rfl, f2⟩ := open_int Try.underlying3 (hval 2 3 v2 rfl rfl) h2
  obtain ⟨A3, n3, c3, rfl⟩ := okWide_slice Try.underlying42 (hval 3 42 v3 rfl rfl)
  have k3 := h3
  have lt3 : ∀ x ∈ p3, x.block < W.heap.size := by obtain ⟨m, hm⟩ := k3; exact DataW.trod_lt m _ _ _ hm
  have s3 := ok_of_Trod (sh := .slice 1 (.slice 1 (.int .u8))) (t := 42) ⟨by decide, 35, Try.underlying42, by kernel_rfl, ⟨by decide, 5, Try.underlying35, by kernel_rfl, Try.underlying5⟩⟩ h3
  obtain ⟨A4, n4, c4, rfl⟩ := okWide_slice Try.underlying42 (hval 4 42 v4 rfl rfl)
  have k4 := h4
  have lt4 : ∀ x ∈ p4, x.block < W.heap.size := by obtain ⟨m, hm⟩ := k4; exact DataW.trod_lt m _ _ _ hm
  have s4 := ok_of_Trod (sh := .slice 1 (.slice 1 (.int .u8))) (t := 42) ⟨by decide, 35, Try.underlying42, by kernel_rfl, ⟨by decide, 5, Try.underlying35, by kernel_rfl, Try.underlying5⟩⟩ h4
  clear hA0 hval0 hA
  refine (shareSums_walk A0 n0 c0 l0 A1 n1 c1 l1 a2 A3 n3 c3 _ A4 n4 c4 _ W b0 g0 r0 f0 b1 g1 r1 f1 f2 s3 s4).mono fun e W' ⟨he, bel⟩ => ?_
  subst he
  exact ⟨_, rfl, _, _, _, [], _, [], hW', trodAll_mk1 (shut_bool Try.underlying4 _), (trodAll_cons_mk (Below.trod laidOut (by kernel_rfl) (of_decide_eq_true (by kernel_rfl)) k0 bel lt0) (trodAll_cons_mk (Below.trod laidOut (by kernel_rfl) (of_decide_eq_true (by kernel_rfl)) k1 bel lt1) (trodAll_cons_mk (shut_int Try.underlying3 f2) (trodAll_cons_mk (Below.trod laidOut (by kernel_rfl) (of_decide_eq_true (by kernel_rfl)) k3 bel lt3) (trodAll_cons_mk (Below.trod laidOut (by kernel_rfl) (of_decide_eq_true (by kernel_rfl)) k4 bel lt4) trodAll_mk0))))), rfl, bel.frame _, fun h => by cases h⟩
set_option maxRecDepth 100000 in
theorem lifted (os : Os) (started : os.Started) (H : Type) (enc : TypeId × Value → H) :
    ReturnsInHanded {} Try.checked os 8 .any (Rows.shareSumsSpec.pre6 enc Try.prog Try.f8 Rows.shareSumsRow.domain false) (Rows.shareSumsSpec.post enc Try.prog Try.f8 false true false false) := by
  refine returnsInHanded_of_change (C := Try.checked) own started (by kernel_rfl) Try.func8
    (ChangeSpec.witness6 (enc := enc) (C := Try.checked) false ⟨#[], #[.slice none 0 0, .slice none 0 0, .int .i64 0, .slice none 0 0, .slice none 0 0], []⟩ 8 (by kernel_rfl) (by kernel_rfl) (by kernel_rfl) (by kernel_rfl)) ?_
  intro W base args ds gs before hval hW _ _
  exact contract H enc W base args ds gs before hval hW
theorem proved : Rows.ShareSumsSaid :=
  OpenClaim.holds_of_wide 8 Try.f8 rfl rfl rfl rfl rfl rfl rfl ⟨rfl, rfl, rfl, rfl, rfl⟩ rfl rfl rfl rfl rfl (by kernel_rfl) Try.func8 (by kernel_rfl)
    (of_decide_eq_true (by kernel_rfl)) (by unfold Func.isWrapper; first | (rw [if_pos (by decide +kernel)]; kernel_rfl) | (rw [if_neg (by decide +kernel)]; exact ⟨rfl, rfl⟩))
    (fun os started H enc _ => lifted os started H enc)
#print axioms proved
end Go.Proofs.Ytilaipdpbcfhkaa.shareSums
