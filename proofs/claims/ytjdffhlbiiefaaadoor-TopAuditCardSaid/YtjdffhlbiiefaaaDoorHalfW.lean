/- The walks of math/bits.Len64, math/bits.Len and tree.Half, of numbers up to 256. -/
import Derived.Test.YtjdffhlbiiefaaaDoorProg
import Derived.Test.YtjdffhlbiiefaaaDoorBase
import Derived.Test.YtjdffhlbiiefaaaDoorAudMath
import Derived.Lib.BitFns
import Derived.Lib.Strings
import Derived.Lib.Small
namespace Go.Proofs.YtjdffhlbiiefaaaDoor
set_option linter.unusedVariables false
open Go.RowKit Go.Mny
set_option maxHeartbeats 4000000 in
set_option maxRecDepth 100000 in
theorem len64_int (x : Int) (w : World) (h0 : 0 ≤ x) (h1 : x ≤ 255) : Calls Tryd.prog 38 #[.int .u64 x] w fun e w' => e = .returned (.int .i64 (Lib.bitLen x.toNat)) ∧ w = w' := by
  go_enter Tryd.func38, Tryd.ntmps38
  go_wp2
  go_ret
  refine ⟨congrArg Ending.returned (congrArg (Value.int IntKind.i64) ?_), rfl⟩
  rw [Lib.len8_of x (by omega) (by omega)]
  have l := Lib.bitLen_le8' x (by omega) (by omega)
  unfold RowKit.wrap64
  omega
theorem len_int (x : Int) (w : World) (h0 : 0 ≤ x) (h1 : x ≤ 255) : Calls Tryd.prog 28 #[.int .u64 x] w fun e w' => e = .returned (.int .i64 (Lib.bitLen x.toNat)) ∧ w = w' := by
  go_enter Tryd.func28, Tryd.ntmps28
  go_wp2_with (go_at_call 38; refine (len64_int x _ h0 h1).mono ?_; rintro e w' ⟨rfl, rfl⟩)
  go_ret
  exact ⟨rfl, rfl⟩
theorem len_any (x : Nat) (w : World) (h1 : x ≤ 255) : Calls Tryd.prog 28 #[.int .u64 (x : Int)] w fun e w' => e = .returned (.int .i64 (Lib.bitLen x : Nat)) ∧ w = w' := by
  have := len_int x w (by omega) (by omega)
  rw [Int.toNat_natCast] at this
  exact this
theorem half_bits : ∀ n : Fin 257, 2 ≤ n.val → Aud.half n.val = 2 ^ (Lib.bitLen (n.val - 1) - 1) ∧ 1 ≤ Lib.bitLen (n.val - 1) ∧ Lib.bitLen (n.val - 1) ≤ 8 := by decide +kernel
theorem shl_small : ∀ b : Nat, b ≤ 7 → RowKit.wrap64 ((2 : Int) ^ b) = ((2 ^ b : Nat) : Int) := by
  intro b h
  have : b = 0 ∨ b = 1 ∨ b = 2 ∨ b = 3 ∨ b = 4 ∨ b = 5 ∨ b = 6 ∨ b = 7 := by omega
  rcases this with rfl | rfl | rfl | rfl | rfl | rfl | rfl | rfl <;> simp [RowKit.wrap64]
set_option maxHeartbeats 1000000 in
theorem half_any (n : Nat) (w : World) (h2 : 2 ≤ n) (h1 : n ≤ 256) : Calls Tryd.prog 16 #[.int .i64 (n : Int)] w fun e w' => e = .returned (.int .i64 (Aud.half n : Nat)) ∧ w = w' := by
  obtain ⟨e1, e2, e3⟩ := half_bits ⟨n, by omega⟩ h2
  simp only at e1 e2 e3
  obtain ⟨m, rfl⟩ : ∃ m, n = m + 1 := ⟨n - 1, by omega⟩
  rw [Nat.add_sub_cancel] at e1 e2 e3
  obtain ⟨b, hb⟩ : ∃ b, Lib.bitLen m = b + 1 := ⟨Lib.bitLen m - 1, by omega⟩
  rw [hb] at e1 e2 e3
  rw [Nat.add_sub_cancel] at e1
  rw [e1]
  have HB := hid hb
  have b8 : b ≤ 7 := by omega
  have i1 : ((m + 1 : Nat) : Int) - 1 = (m : Int) := by omega
  have i2 : (0 : Int) ≤ (m : Int) := by omega
  clear hb e1 e2 e3
  go_enter Tryd.func16, Tryd.ntmps16
  go_wp2_with (go_at_call 28; refine (len_any m _ (by omega)).mono ?_; rintro e w' ⟨rfl, rfl⟩; rw [HB.out])
  go_ret
  refine ⟨congrArg Ending.returned (congrArg (Value.int IntKind.i64) ?_), rfl⟩
  exact shl_small b b8
end Go.Proofs.YtjdffhlbiiefaaaDoor
