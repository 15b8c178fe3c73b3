/- The walk of the law ShaSums. -/
import Derived.Test.YthpdpgjpkpkebaaDoorRefSumW
import Derived.Test.YthpdpgjpkpkebaaDoorNats
namespace Go.Proofs.YthpdpgjpkpkebaaDoor
set_option linter.unusedVariables false
open Go.RowKit Go.Mny
set_option maxHeartbeats 4000000 in
set_option maxRecDepth 100000 in
theorem shaSums_walk (A0 : Option Addr) (n0 c0 : Nat) (l0 : List Int) (w : World) (b0 : n0 ≤ c0) (g0 : c0 ≤ maxLen) (r0 : Row w w.heap.size 1 A0 n0 (l0.map (Value.int .u8))) (f0 : ∀ z ∈ l0, (Lit.int .u8 z).wf = true) (rb0 : n0 * 1 ≤ 140737488351232) (hL : Laid w) (h0 : 0 < w.heap.size) :
    Calls Tryd.prog 3 #[.slice A0 n0 c0] w fun e w' => e = .returned (.bool true) ∧ Below w.heap.size w w' := by
  obtain ⟨b, rfl, b8⟩ := nats_of f0
  have HR := hid (show Row w w.heap.size 1 A0 n0 (bytes b) from r0); have HL := hid hL; have B8' := hid b8
  have hn0 : n0 ≤ 140737488351232 := by omega
  clear r0 f0 hL b8 rb0 b0 g0
  go_enter Tryd.func3, Tryd.ntmps3
  go_wp2_with fail
  refine (known_any _ (unhid HL) h0).mono ?_
  rintro e w1 ⟨rfl, hb1⟩
  have E1 := hid hb1
  clear hb1
  go_wp2_with fail
  refine (sum_any b A0 n0 c0 w.heap.size _ ((unhid HR).below (unhid E1)) (unhid E1).size (by omega) B8'.out ((unhid HL).below (unhid E1) h0) (by have := (unhid E1).size; omega)).mono ?_
  rintro e w2 ⟨rfl, hb2⟩
  have E2 := hid ((unhid E1).trans (hb2.mono (unhid E1).size))
  clear hb2 E1
  go_wp2_with fail
  refine (rsum_any b A0 n0 c0 w.heap.size _ ((unhid HR).below (unhid E2)) (unhid E2).size (by omega) B8'.out).mono ?_
  rintro e w3 ⟨rfl, hb3⟩
  have E3 := hid ((unhid E2).trans (hb3.mono (unhid E2).size))
  clear hb3 E2
  go_wp2_with (with_reducible refine halt_op (some 11) (.binOp _ _ _ _ _) (fun K hK => ?_))
  refine go_on hK ?_; clear hK
  refine eql_arr digT (l1 := up (Sh2.sum b)) (l2 := up (Sh2.sum b)) (b := true) (by kernel_rfl) rfl (.tmp 8) (.tmp 10) 25 rfl rfl rfl (sum_len_u _) (sum_len_u _) (by simp) ?_
  go_wp2_with fail
  go_ret
  exact ⟨rfl, unhid E3⟩
end Go.Proofs.YthpdpgjpkpkebaaDoor
