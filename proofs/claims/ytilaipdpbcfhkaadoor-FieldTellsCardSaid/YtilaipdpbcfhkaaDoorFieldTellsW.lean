/- The walk of the law FieldTells. -/
import Derived.Test.YtilaipdpbcfhkaaDoorRefFieldW
import Derived.Test.YtilaipdpbcfhkaaDoorTold
import Derived.Test.YtilaipdpbcfhkaaDoorOpen
namespace Go.Proofs.YtilaipdpbcfhkaaDoor
set_option linter.unusedVariables false
open Go.RowKit Go.Mny
theorem inv_no (w : World) : Calls Tryd.prog 10 #[.int .u8 0] w fun e w' => e = .returned (.tuple #[.int .u8 0, .iface 23 (.int .i64 2)]) ∧ w = w' := by
  go_enter Tryd.func10, Tryd.ntmps10
  go_wp2_with fail
  go_ret2
  exact ⟨rfl, rfl⟩
theorem pow_no (a : Int) (n : Int) (w : World) (hn : n < 0) : Calls Tryd.prog 13 #[.int .u8 a, .int .i64 n] w fun e w' => e = .returned (.tuple #[.int .u8 0, .iface 23 (.int .i64 2)]) ∧ w = w' := by
  go_enter Tryd.func13, Tryd.ntmps13
  go_wp2_with fail
  go_ret2
  exact ⟨rfl, rfl⟩
theorem mul_2_128 : Fld.mul 2 128 = 27 := by decide +kernel
set_option maxHeartbeats 4000000 in
set_option maxRecDepth 100000 in
theorem fieldTells_walk (a0 : Int) (a1 : Int) (a2 : Int) (w : World) (f0 : (Lit.int .u8 a0).wf = true) (f1 : (Lit.int .u8 a1).wf = true) (f2 : (Lit.int .i64 a2).wf = true)  (hH : Hdl w) :
    Calls Tryd.prog 3 #[.int .u8 a0, .int .u8 a1, .int .i64 a2] w fun e w' => e = .returned (.bool true) ∧ Below w.heap.size w w' := by
  have v0 := bounds_u8 f0
  have v1 := bounds_u8 f1
  have v2 := bounds_i64 f2
  obtain ⟨a, rfl⟩ := Int.eq_ofNat_of_zero_le v0.1
  obtain ⟨b, rfl⟩ := Int.eq_ofNat_of_zero_le v1.1
  have ha : a < 256 := by omega
  have hb : b < 256 := by omega
  have HH := hid hH
  have hx := u8_xor a b ha hb
  have C2 := hid (show ∀ w, Calls Tryd.prog 7 #[.int .u8 2, .int .u8 128] w fun e w' => e = .returned (.int .u8 27) ∧ w = w' from fun w => by
    have := mul_any 2 128 w (by decide) (by decide)
    rw [mul_2_128] at this; exact this)
  clear f0 f1 f2 hH v0 v1
  go_enter Tryd.func3, Tryd.ntmps3
  go_wp2_with fail
  refine (add_any a b _ ha hb).mono ?_
  rintro e w' ⟨rfl, rfl⟩
  go_wp2_with fail
  refine (mul_any a b _ ha hb).mono ?_
  rintro e w' ⟨rfl, rfl⟩
  go_wp2_with fail
  refine (rmul_any a b _ ha hb).mono ?_
  rintro e w' ⟨rfl, rfl⟩
  go_wp2_with fail
  refine (unhid C2 _).mono ?_
  rintro e w' ⟨rfl, rfl⟩
  by_cases h0 : a = 0
  case' pos =>
    subst h0
    go_wp2_with fail
    refine (inv_no _).mono ?_
    rintro e w' ⟨rfl, rfl⟩
    go_wp2_with fail
    refine (error_err 2 2 (by decide) _ (unhid HH)).mono ?_
    rintro e w1 ⟨rfl, hb1⟩
    rw [show ((2 : Int) == 2) = true from rfl]
  case' neg =>
    have hne : ((a : Int) == 0) = false := by simp; omega
    go_wp2_with fail
    refine (rinv_any a _ ha h0).mono ?_
    rintro e w' ⟨rfl, rfl⟩
    go_wp2_with fail
    refine (inv_ok a _ ha h0).mono ?_
    rintro e w' ⟨rfl, rfl⟩
    go_wp2_with fail
    refine (error_nil 0 _ (unhid HH)).mono ?_
    rintro e w1 ⟨rfl, hb1⟩
    rw [show ((0 : Int) == 0) = true from rfl]
  all_goals
    have E1 := hid hb1
    clear hb1 hx
    by_cases hn : a2 < 0
    · go_wp2_with fail
      refine (pow_no _ a2 _ hn).mono ?_
      rintro e w' ⟨rfl, rfl⟩
      go_wp2_with fail
      refine (error_err 2 2 (by decide) _ ((unhid HH).of_below (unhid E1))).mono ?_
      rintro e w2 ⟨rfl, hb2⟩
      have E2 := hid ((unhid E1).trans (hb2.mono (unhid E1).size))
      rw [show ((2 : Int) == 2) = true from rfl]
      clear hb2
      go_wp2_with fail
      go_ret
      exact ⟨rfl, unhid E2⟩
    · obtain ⟨n, rfl⟩ := Int.eq_ofNat_of_zero_le (show 0 ≤ a2 by omega)
      have hnb : n ≤ 9223372036854775807 := by omega
      have HNB := hid hnb
      have t1 : (0 : Int) ≤ (n : Int) := by omega
      clear hn v2 hnb
      go_wp2_with fail
      first
        | refine (rpow_any a n _ ha HNB.out).mono ?_
        | refine (rpow_any 0 n _ (by decide) HNB.out).mono ?_
      rintro e w' ⟨rfl, rfl⟩
      go_wp2_with fail
      first
        | refine (pow_ok a n _ ha HNB.out).mono ?_
        | refine (pow_ok 0 n _ (by decide) HNB.out).mono ?_
      rintro e w' ⟨rfl, rfl⟩
      go_wp2_with fail
      refine (error_nil 0 _ ((unhid HH).of_below (unhid E1))).mono ?_
      rintro e w2 ⟨rfl, hb2⟩
      have E2 := hid ((unhid E1).trans (hb2.mono (unhid E1).size))
      rw [show ((0 : Int) == 0) = true from rfl]
      clear hb2
      go_wp2_with fail
      go_ret
      exact ⟨rfl, unhid E2⟩
end Go.Proofs.YtilaipdpbcfhkaaDoor
