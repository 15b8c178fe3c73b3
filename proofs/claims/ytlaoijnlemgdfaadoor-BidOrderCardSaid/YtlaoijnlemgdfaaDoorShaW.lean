/- Walks of bits.RotateLeft32, sha.turned, sha's block. -/
import Derived.Test.YtlaoijnlemgdfaaDoorProg
import Derived.Test.YtlaoijnlemgdfaaDoorDig
import Derived.Test.YtlaoijnlemgdfaaDoorShaMath
import Derived.OpenShut
import Derived.BigRegion
namespace Go.Proofs.YtlaoijnlemgdfaaDoor
set_option linter.unusedVariables false
open Go.RowKit Go.Mny
theorem ofInt_u32 (a : Nat) (ha : a < 4294967296) : (BitVec.ofInt 32 (a : Int)).toNat = a := by
  rw [BitVec.ofInt_natCast, BitVec.toNat_ofNat]; exact Nat.mod_eq_of_lt (by omega)
theorem u32_in (n : Nat) (h : n < 4294967296) : IntKind.u32.wrap (n : Int) = n := by
  unfold IntKind.wrap; simp [IntKind.signed, IntKind.bits]; omega
theorem u32_and (a b : Nat) (ha : a < 4294967296) (hb : b < 4294967296) : bits .and .u32 (a : Int) (b : Int) = ((a &&& b : Nat) : Int) := by
  have h : a &&& b ≤ a := Nat.and_le_left
  show IntKind.u32.wrap ((BitVec.ofInt 32 (a : Int) &&& BitVec.ofInt 32 (b : Int)).toNat : Int) = _
  rw [BitVec.toNat_and, ofInt_u32 a ha, ofInt_u32 b hb]
  exact u32_in _ (by omega)
theorem or_lt32 (a b : Nat) (ha : a < 4294967296) (hb : b < 4294967296) : a ||| b < 4294967296 := Nat.or_lt_two_pow (n := 32) ha hb
theorem xor_lt32 (a b : Nat) (ha : a < 4294967296) (hb : b < 4294967296) : a ^^^ b < 4294967296 := Nat.xor_lt_two_pow (n := 32) ha hb
theorem u32_or (a b : Nat) (ha : a < 4294967296) (hb : b < 4294967296) : bits .or .u32 (a : Int) (b : Int) = ((a ||| b : Nat) : Int) := by
  show IntKind.u32.wrap ((BitVec.ofInt 32 (a : Int) ||| BitVec.ofInt 32 (b : Int)).toNat : Int) = _
  rw [BitVec.toNat_or, ofInt_u32 a ha, ofInt_u32 b hb]
  exact u32_in _ (or_lt32 a b ha hb)
theorem u32_xor (a b : Nat) (ha : a < 4294967296) (hb : b < 4294967296) : bits .xor .u32 (a : Int) (b : Int) = ((a ^^^ b : Nat) : Int) := by
  show IntKind.u32.wrap ((BitVec.ofInt 32 (a : Int) ^^^ BitVec.ofInt 32 (b : Int)).toNat : Int) = _
  rw [BitVec.toNat_xor, ofInt_u32 a ha, ofInt_u32 b hb]
  exact u32_in _ (xor_lt32 a b ha hb)
theorem rot_lt (x n : Nat) (hx : x < 4294967296) : Sh2.rot x n < 4294967296 :=
  or_lt32 _ _ (Nat.mod_lt _ (by decide)) (Nat.lt_of_le_of_lt (Nat.div_le_self _ _) hx)
theorem rot_2 (x : Nat) (w : World) (hx : x < 4294967296) :
    Calls Tryd.prog 73 #[.int .u32 x, .int .i64 (-2)] w fun e w' => e = .returned (.int .u32 (Sh2.rot x 2 : Nat)) ∧ w = w' := by
  have a0 : IntKind.u64.wrap (-2) = 18446744073709551614 := by decide +kernel
  have a1 : bits .and .u64 18446744073709551614 31 = 30 := by decide +kernel
  have a2 : bits .or .u32 ((x : Int) * 1073741824 % 4294967296) ((x : Int) / 4) = (Sh2.rot x 2 : Nat) := u32_or (x * 1073741824 % 4294967296) (x / 4) (Nat.mod_lt _ (by decide)) (Nat.lt_of_le_of_lt (Nat.div_le_self _ _) hx)
  go_enter Tryd.func73, Tryd.ntmps73
  go_wp2
  go_ret
  exact ⟨rfl, rfl⟩
theorem rot_6 (x : Nat) (w : World) (hx : x < 4294967296) :
    Calls Tryd.prog 73 #[.int .u32 x, .int .i64 (-6)] w fun e w' => e = .returned (.int .u32 (Sh2.rot x 6 : Nat)) ∧ w = w' := by
  have a0 : IntKind.u64.wrap (-6) = 18446744073709551610 := by decide +kernel
  have a1 : bits .and .u64 18446744073709551610 31 = 26 := by decide +kernel
  have a2 : bits .or .u32 ((x : Int) * 67108864 % 4294967296) ((x : Int) / 64) = (Sh2.rot x 6 : Nat) := u32_or (x * 67108864 % 4294967296) (x / 64) (Nat.mod_lt _ (by decide)) (Nat.lt_of_le_of_lt (Nat.div_le_self _ _) hx)
  go_enter Tryd.func73, Tryd.ntmps73
  go_wp2
  go_ret
  exact ⟨rfl, rfl⟩
theorem rot_7 (x : Nat) (w : World) (hx : x < 4294967296) :
    Calls Tryd.prog 73 #[.int .u32 x, .int .i64 (-7)] w fun e w' => e = .returned (.int .u32 (Sh2.rot x 7 : Nat)) ∧ w = w' := by
  have a0 : IntKind.u64.wrap (-7) = 18446744073709551609 := by decide +kernel
  have a1 : bits .and .u64 18446744073709551609 31 = 25 := by decide +kernel
  have a2 : bits .or .u32 ((x : Int) * 33554432 % 4294967296) ((x : Int) / 128) = (Sh2.rot x 7 : Nat) := u32_or (x * 33554432 % 4294967296) (x / 128) (Nat.mod_lt _ (by decide)) (Nat.lt_of_le_of_lt (Nat.div_le_self _ _) hx)
  go_enter Tryd.func73, Tryd.ntmps73
  go_wp2
  go_ret
  exact ⟨rfl, rfl⟩
theorem rot_11 (x : Nat) (w : World) (hx : x < 4294967296) :
    Calls Tryd.prog 73 #[.int .u32 x, .int .i64 (-11)] w fun e w' => e = .returned (.int .u32 (Sh2.rot x 11 : Nat)) ∧ w = w' := by
  have a0 : IntKind.u64.wrap (-11) = 18446744073709551605 := by decide +kernel
  have a1 : bits .and .u64 18446744073709551605 31 = 21 := by decide +kernel
  have a2 : bits .or .u32 ((x : Int) * 2097152 % 4294967296) ((x : Int) / 2048) = (Sh2.rot x 11 : Nat) := u32_or (x * 2097152 % 4294967296) (x / 2048) (Nat.mod_lt _ (by decide)) (Nat.lt_of_le_of_lt (Nat.div_le_self _ _) hx)
  go_enter Tryd.func73, Tryd.ntmps73
  go_wp2
  go_ret
  exact ⟨rfl, rfl⟩
theorem rot_13 (x : Nat) (w : World) (hx : x < 4294967296) :
    Calls Tryd.prog 73 #[.int .u32 x, .int .i64 (-13)] w fun e w' => e = .returned (.int .u32 (Sh2.rot x 13 : Nat)) ∧ w = w' := by
  have a0 : IntKind.u64.wrap (-13) = 18446744073709551603 := by decide +kernel
  have a1 : bits .and .u64 18446744073709551603 31 = 19 := by decide +kernel
  have a2 : bits .or .u32 ((x : Int) * 524288 % 4294967296) ((x : Int) / 8192) = (Sh2.rot x 13 : Nat) := u32_or (x * 524288 % 4294967296) (x / 8192) (Nat.mod_lt _ (by decide)) (Nat.lt_of_le_of_lt (Nat.div_le_self _ _) hx)
  go_enter Tryd.func73, Tryd.ntmps73
  go_wp2
  go_ret
  exact ⟨rfl, rfl⟩
theorem rot_17 (x : Nat) (w : World) (hx : x < 4294967296) :
    Calls Tryd.prog 73 #[.int .u32 x, .int .i64 (-17)] w fun e w' => e = .returned (.int .u32 (Sh2.rot x 17 : Nat)) ∧ w = w' := by
  have a0 : IntKind.u64.wrap (-17) = 18446744073709551599 := by decide +kernel
  have a1 : bits .and .u64 18446744073709551599 31 = 15 := by decide +kernel
  have a2 : bits .or .u32 ((x : Int) * 32768 % 4294967296) ((x : Int) / 131072) = (Sh2.rot x 17 : Nat) := u32_or (x * 32768 % 4294967296) (x / 131072) (Nat.mod_lt _ (by decide)) (Nat.lt_of_le_of_lt (Nat.div_le_self _ _) hx)
  go_enter Tryd.func73, Tryd.ntmps73
  go_wp2
  go_ret
  exact ⟨rfl, rfl⟩
theorem rot_18 (x : Nat) (w : World) (hx : x < 4294967296) :
    Calls Tryd.prog 73 #[.int .u32 x, .int .i64 (-18)] w fun e w' => e = .returned (.int .u32 (Sh2.rot x 18 : Nat)) ∧ w = w' := by
  have a0 : IntKind.u64.wrap (-18) = 18446744073709551598 := by decide +kernel
  have a1 : bits .and .u64 18446744073709551598 31 = 14 := by decide +kernel
  have a2 : bits .or .u32 ((x : Int) * 16384 % 4294967296) ((x : Int) / 262144) = (Sh2.rot x 18 : Nat) := u32_or (x * 16384 % 4294967296) (x / 262144) (Nat.mod_lt _ (by decide)) (Nat.lt_of_le_of_lt (Nat.div_le_self _ _) hx)
  go_enter Tryd.func73, Tryd.ntmps73
  go_wp2
  go_ret
  exact ⟨rfl, rfl⟩
theorem rot_19 (x : Nat) (w : World) (hx : x < 4294967296) :
    Calls Tryd.prog 73 #[.int .u32 x, .int .i64 (-19)] w fun e w' => e = .returned (.int .u32 (Sh2.rot x 19 : Nat)) ∧ w = w' := by
  have a0 : IntKind.u64.wrap (-19) = 18446744073709551597 := by decide +kernel
  have a1 : bits .and .u64 18446744073709551597 31 = 13 := by decide +kernel
  have a2 : bits .or .u32 ((x : Int) * 8192 % 4294967296) ((x : Int) / 524288) = (Sh2.rot x 19 : Nat) := u32_or (x * 8192 % 4294967296) (x / 524288) (Nat.mod_lt _ (by decide)) (Nat.lt_of_le_of_lt (Nat.div_le_self _ _) hx)
  go_enter Tryd.func73, Tryd.ntmps73
  go_wp2
  go_ret
  exact ⟨rfl, rfl⟩
theorem rot_22 (x : Nat) (w : World) (hx : x < 4294967296) :
    Calls Tryd.prog 73 #[.int .u32 x, .int .i64 (-22)] w fun e w' => e = .returned (.int .u32 (Sh2.rot x 22 : Nat)) ∧ w = w' := by
  have a0 : IntKind.u64.wrap (-22) = 18446744073709551594 := by decide +kernel
  have a1 : bits .and .u64 18446744073709551594 31 = 10 := by decide +kernel
  have a2 : bits .or .u32 ((x : Int) * 1024 % 4294967296) ((x : Int) / 4194304) = (Sh2.rot x 22 : Nat) := u32_or (x * 1024 % 4294967296) (x / 4194304) (Nat.mod_lt _ (by decide)) (Nat.lt_of_le_of_lt (Nat.div_le_self _ _) hx)
  go_enter Tryd.func73, Tryd.ntmps73
  go_wp2
  go_ret
  exact ⟨rfl, rfl⟩
theorem rot_25 (x : Nat) (w : World) (hx : x < 4294967296) :
    Calls Tryd.prog 73 #[.int .u32 x, .int .i64 (-25)] w fun e w' => e = .returned (.int .u32 (Sh2.rot x 25 : Nat)) ∧ w = w' := by
  have a0 : IntKind.u64.wrap (-25) = 18446744073709551591 := by decide +kernel
  have a1 : bits .and .u64 18446744073709551591 31 = 7 := by decide +kernel
  have a2 : bits .or .u32 ((x : Int) * 128 % 4294967296) ((x : Int) / 33554432) = (Sh2.rot x 25 : Nat) := u32_or (x * 128 % 4294967296) (x / 33554432) (Nat.mod_lt _ (by decide)) (Nat.lt_of_le_of_lt (Nat.div_le_self _ _) hx)
  go_enter Tryd.func73, Tryd.ntmps73
  go_wp2
  go_ret
  exact ⟨rfl, rfl⟩
theorem tri_6 (x : Nat) (w : World) (hx : x < 4294967296) :
    Calls Tryd.prog 74 #[.int .u32 x, .int .i64 6, .int .i64 11, .int .i64 25] w fun e w' => e = .returned (.int .u32 (Sh2.tri x 6 11 25 : Nat)) ∧ w = w' := by
  have l1 := rot_lt x 6 hx; have l2 := rot_lt x 11 hx; have l3 := rot_lt x 25 hx
  have x1 := u32_xor (Sh2.rot x 6) (Sh2.rot x 11) l1 l2
  have x2 := u32_xor (Sh2.rot x 6 ^^^ Sh2.rot x 11) (Sh2.rot x 25) (xor_lt32 _ _ l1 l2) l3
  go_enter Tryd.func74, Tryd.ntmps74
  go_wp2_with fail
  refine (rot_6 x _ hx).mono ?_
  rintro e w' ⟨rfl, rfl⟩
  go_wp2_with fail
  refine (rot_11 x _ hx).mono ?_
  rintro e w' ⟨rfl, rfl⟩
  go_wp2_with fail
  refine (rot_25 x _ hx).mono ?_
  rintro e w' ⟨rfl, rfl⟩
  go_wp2_with fail
  go_ret
  exact ⟨rfl, rfl⟩
theorem tri_2 (x : Nat) (w : World) (hx : x < 4294967296) :
    Calls Tryd.prog 74 #[.int .u32 x, .int .i64 2, .int .i64 13, .int .i64 22] w fun e w' => e = .returned (.int .u32 (Sh2.tri x 2 13 22 : Nat)) ∧ w = w' := by
  have l1 := rot_lt x 2 hx; have l2 := rot_lt x 13 hx; have l3 := rot_lt x 22 hx
  have x1 := u32_xor (Sh2.rot x 2) (Sh2.rot x 13) l1 l2
  have x2 := u32_xor (Sh2.rot x 2 ^^^ Sh2.rot x 13) (Sh2.rot x 22) (xor_lt32 _ _ l1 l2) l3
  go_enter Tryd.func74, Tryd.ntmps74
  go_wp2_with fail
  refine (rot_2 x _ hx).mono ?_
  rintro e w' ⟨rfl, rfl⟩
  go_wp2_with fail
  refine (rot_13 x _ hx).mono ?_
  rintro e w' ⟨rfl, rfl⟩
  go_wp2_with fail
  refine (rot_22 x _ hx).mono ?_
  rintro e w' ⟨rfl, rfl⟩
  go_wp2_with fail
  go_ret
  exact ⟨rfl, rfl⟩
theorem tri_lt (x a b c : Nat) (hx : x < 4294967296) : Sh2.tri x a b c < 4294967296 := xor_lt32 _ _ (xor_lt32 _ _ (rot_lt x a hx) (rot_lt x b hx)) (rot_lt x c hx)
end Go.Proofs.YtlaoijnlemgdfaaDoor
