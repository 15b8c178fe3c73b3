/- The walk of the law MacExpands. -/
import Derived.Test.YthpdpgjpkpkebaaDoorExpandW
import Derived.Test.YthpdpgjpkpkebaaDoorNats
import Derived.Test.YthpdpgjpkpkebaaDoorBytesW
namespace Go.Proofs.YthpdpgjpkpkebaaDoor
set_option linter.unusedVariables false
open Go.RowKit Go.Mny
set_option maxHeartbeats 8000000 in
set_option maxRecDepth 100000 in
theorem macExpands_walk (A0 : Option Addr) (n0 c0 : Nat) (l0 : List Int) (A1 : Option Addr) (n1 c1 : Nat) (l1 : List Int) (a2 : Int) (a3 : Int) (w : World) (b0 : n0 ≤ c0) (g0 : c0 ≤ maxLen) (r0 : Row w w.heap.size 1 A0 n0 (l0.map (Value.int .u8))) (f0 : ∀ z ∈ l0, (Lit.int .u8 z).wf = true) (b1 : n1 ≤ c1) (g1 : c1 ≤ maxLen) (r1 : Row w w.heap.size 1 A1 n1 (l1.map (Value.int .u8))) (f1 : ∀ z ∈ l1, (Lit.int .u8 z).wf = true) (f2 : (Lit.int .i64 a2).wf = true) (f3 : (Lit.int .i64 a3).wf = true) (rb0 : n0 * 1 ≤ 140737488351232) (rb1 : n1 * 1 ≤ 140737488351232) (hL : Laid w) (h0 : 0 < w.heap.size) :
    Calls Tryd.prog 6 #[.slice A0 n0 c0, .slice A1 n1 c1, .int .i64 a2, .int .i64 a3] w fun e w' => e = .returned (.bool true) ∧ Below w.heap.size w w' := by
  obtain ⟨key, rfl, k8⟩ := nats_of f0
  obtain ⟨b, rfl, b8⟩ := nats_of f1
  have v2 := bounds_i64 f2
  have v3 := bounds_i64 f3
  have hn0 : n0 ≤ 140737488351232 := by omega
  have hn1 : n1 ≤ 140737488351232 := by omega
  have HL := hid hL
  have EXP : Hid (∀ (k : Nat) (w' : World), k ≤ 2000 → Below w.heap.size w w' → Calls Tryd.prog 16 #[.slice A0 n0 c0, .slice A1 n1 c1, .int .i64 k] w' (Expd key b k w')) := fun k w' hk hbl =>
    expand_yes key b A0 A1 n0 c0 n1 c1 w.heap.size k w' (r0.below hbl) (r1.below hbl) hbl.size (by omega) (by omega) k8 b8 hk (hL.below hbl h0) (by have := hbl.size; omega)
  clear r0 r1 f0 f1 f2 f3 hL k8 b8 rb0 rb1 b0 b1 g0 g1
  go_enter Tryd.func6, Tryd.ntmps6
  go_wp2_with fail
  refine (expand_yes [] [] none none 0 0 0 0 0 5 _ (Row.nil _ _ _ _) (Row.nil _ _ _ _) (Nat.zero_le _) (by omega) (by omega) B8.nil B8.nil (by decide) (unhid HL) h0).mono ?_
  rintro e w1 ⟨A5, rfl, _, hb1⟩
  have E1 := hid hb1
  clear hb1
  by_cases hmn : a3 < a2
  · go_wp2_with fail
    go_ret
    exact ⟨rfl, unhid E1⟩
  by_cases hm0 : a2 < 0 ∨ 2000 < a2
  · go_wp2_with fail
    refine (expand_no A0 A1 n0 c0 n1 c1 a2 _ hm0).mono ?_
    rintro e w' ⟨rfl, rfl⟩
    by_cases hn2 : a3 < 0 ∨ 2000 < a3
    · go_wp2_with fail
      refine (expand_no A0 A1 n0 c0 n1 c1 a3 _ hn2).mono ?_
      rintro e w' ⟨rfl, rfl⟩
      go_wp2_with fail
      go_ret
      exact ⟨rfl, unhid E1⟩
    · obtain ⟨n, rfl⟩ := Int.eq_ofNat_of_zero_le (show 0 ≤ a3 by omega)
      go_wp2_with fail
      refine (unhid EXP n _ (by omega) (unhid E1)).mono ?_
      rintro e w2 ⟨A6, rfl, _, hb2⟩
      have E2 := hid ((unhid E1).trans (hb2.mono (unhid E1).size))
      clear hb2
      go_wp2_with fail
      go_ret
      exact ⟨rfl, unhid E2⟩
  obtain ⟨m, rfl⟩ := Int.eq_ofNat_of_zero_le (show 0 ≤ a2 by omega)
  go_wp2_with fail
  refine (unhid EXP m _ (by omega) (unhid E1)).mono ?_
  rintro e w2 ⟨A6, rfl, r6, hb2⟩
  have E2 := hid ((unhid E1).trans (hb2.mono (unhid E1).size))
  have R6 := hid r6
  clear hb2 r6 E1
  by_cases hn2 : a3 < 0 ∨ 2000 < a3
  · go_wp2_with fail
    refine (expand_no A0 A1 n0 c0 n1 c1 a3 _ hn2).mono ?_
    rintro e w' ⟨rfl, rfl⟩
    go_wp2_with fail
    go_ret
    exact ⟨rfl, unhid E2⟩
  obtain ⟨n, rfl⟩ := Int.eq_ofNat_of_zero_le (show 0 ≤ a3 by omega)
  go_wp2_with fail
  refine (unhid EXP n _ (by omega) (unhid E2)).mono ?_
  rintro e w3 ⟨A7, rfl, r7, hb3⟩
  have E3 := hid ((unhid E2).trans (hb3.mono (unhid E2).size))
  have R7 := hid r7
  have R6' := hid ((unhid R6).below hb3)
  clear hb3 r7 E2 R6
  go_wp2_with (with_reducible refine halt_op (some 63) (.slice _ _ _ _ _) (fun K hK => ?_))
  refine go_on hK ?_; clear hK
  refine slice_step bytesE rfl (.tmp 61) none (some (.tmp 62)) rfl rfl (i := 0) (j := m) (Bnd.out 0) (Bnd.at_ rfl) (unhid R7) (Nat.zero_le _) (by omega) (Nat.le_refl _) ?_
  intro A8 r8
  simp only [Nat.mul_one, List.drop_zero, Nat.sub_zero] at r8
  rw [← bytes_take, ← expN_prefix key b (show m ≤ n by omega)] at r8
  rw [Nat.sub_zero, Nat.sub_zero]
  have R8 := hid r8
  clear r8
  go_wp2_with fail
  refine (bytes_any A6 A8 m m m n _ _ (up (expN key b m)) (up (expN key b m)) _ (unhid R6') (unhid R8) (by omega) (by omega)).mono ?_
  rintro e w' ⟨k, rfl, rfl⟩
  have hdd : decide (up (expN key b m) = up (expN key b m)) = true := by simp
  rw [hdd]
  clear hdd
  go_wp2_with fail
  go_ret
  exact ⟨rfl, (unhid E3).drewN k⟩
end Go.Proofs.YthpdpgjpkpkebaaDoor
