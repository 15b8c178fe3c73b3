/- Walks of the reference's turn, Num, rounds. -/
import Derived.Test.YtlaoijnlemgdfaaDoorShaOfW
namespace Go.Proofs.YtlaoijnlemgdfaaDoor
set_option linter.unusedVariables false
open Go.RowKit Go.Mny
def TurnPost (r : Nat) (w : World) (e : Ending) (w' : World) : Prop := ∃ k, e = .returned (.int .i64 (r : Nat)) ∧ w.drewN k = w'
theorem mask32 (a : Nat) (ha : a < 9223372036854775808) : bits .and .i64 ((a : Nat) : Int) 4294967295 = (a : Int) % 4294967296 := by
  have := i64_and a 4294967295 ha (by decide)
  rw [show ((4294967295 : Nat) : Int) = 4294967295 from rfl] at this
  rw [this, show (4294967295 : Nat) = 2 ^ 32 - 1 from rfl, Nat.and_two_pow_sub_one_eq_mod]
  omega
theorem turn_bits (x n d m : Nat) (hx : x < 4294967296) (hd : d = 2 ^ n) (hm : m = 2 ^ (32 - n)) : bits .or .i64 ((x : Int) / (d : Nat)) ((x : Int) * (m : Nat) % 4294967296) = (Sh2.rot x n : Nat) := by
  have e1 : (x : Int) / (d : Nat) = ((x / d : Nat) : Int) := by simp
  have e2 : (x : Int) * (m : Nat) % 4294967296 = ((x * m % 4294967296 : Nat) : Int) := by simp
  have l1 : x / d ≤ x := Nat.div_le_self _ _
  have l2 : x * m % 4294967296 < 4294967296 := Nat.mod_lt _ (by decide)
  rw [e1, e2, i64_or _ _ (by omega) (by omega), Nat.or_comm]
  subst hd; subst hm; rfl
set_option maxHeartbeats 1000000
theorem turn_2 (x : Nat) (w : World) (hx : x < 4294967296) :
    Calls Tryd.prog 46 #[.int .i64 x, .int .i64 2] w (TurnPost (Sh2.rot x 2) w) := by
  have m1 : IntKind.i64.wrap ((x : Int) * 1073741824) = (x : Int) * 1073741824 := IntWalk.i64_in _ (by omega)
  have m2 : bits .and .i64 ((x : Int) * 1073741824) 4294967295 = (x : Int) * 1073741824 % 4294967296 := mask32 (x * 1073741824) (by omega)
  have m3 : bits .or .i64 ((x : Int) / 4) ((x : Int) * 1073741824 % 4294967296) = (Sh2.rot x 2 : Nat) := turn_bits x 2 4 1073741824 hx (by decide) (by decide)
  go_enter Tryd.func46, Tryd.ntmps46
  go_wp2_with fail
  go_quiet (fail)
  go_wp2_with fail
  go_ret
  exact ⟨_, rfl, rfl⟩
theorem turn_6 (x : Nat) (w : World) (hx : x < 4294967296) :
    Calls Tryd.prog 46 #[.int .i64 x, .int .i64 6] w (TurnPost (Sh2.rot x 6) w) := by
  have m1 : IntKind.i64.wrap ((x : Int) * 67108864) = (x : Int) * 67108864 := IntWalk.i64_in _ (by omega)
  have m2 : bits .and .i64 ((x : Int) * 67108864) 4294967295 = (x : Int) * 67108864 % 4294967296 := mask32 (x * 67108864) (by omega)
  have m3 : bits .or .i64 ((x : Int) / 64) ((x : Int) * 67108864 % 4294967296) = (Sh2.rot x 6 : Nat) := turn_bits x 6 64 67108864 hx (by decide) (by decide)
  go_enter Tryd.func46, Tryd.ntmps46
  go_wp2_with fail
  go_quiet (fail)
  go_wp2_with fail
  go_ret
  exact ⟨_, rfl, rfl⟩
theorem turn_7 (x : Nat) (w : World) (hx : x < 4294967296) :
    Calls Tryd.prog 46 #[.int .i64 x, .int .i64 7] w (TurnPost (Sh2.rot x 7) w) := by
  have m1 : IntKind.i64.wrap ((x : Int) * 33554432) = (x : Int) * 33554432 := IntWalk.i64_in _ (by omega)
  have m2 : bits .and .i64 ((x : Int) * 33554432) 4294967295 = (x : Int) * 33554432 % 4294967296 := mask32 (x * 33554432) (by omega)
  have m3 : bits .or .i64 ((x : Int) / 128) ((x : Int) * 33554432 % 4294967296) = (Sh2.rot x 7 : Nat) := turn_bits x 7 128 33554432 hx (by decide) (by decide)
  go_enter Tryd.func46, Tryd.ntmps46
  go_wp2_with fail
  go_quiet (fail)
  go_wp2_with fail
  go_ret
  exact ⟨_, rfl, rfl⟩
theorem turn_11 (x : Nat) (w : World) (hx : x < 4294967296) :
    Calls Tryd.prog 46 #[.int .i64 x, .int .i64 11] w (TurnPost (Sh2.rot x 11) w) := by
  have m1 : IntKind.i64.wrap ((x : Int) * 2097152) = (x : Int) * 2097152 := IntWalk.i64_in _ (by omega)
  have m2 : bits .and .i64 ((x : Int) * 2097152) 4294967295 = (x : Int) * 2097152 % 4294967296 := mask32 (x * 2097152) (by omega)
  have m3 : bits .or .i64 ((x : Int) / 2048) ((x : Int) * 2097152 % 4294967296) = (Sh2.rot x 11 : Nat) := turn_bits x 11 2048 2097152 hx (by decide) (by decide)
  go_enter Tryd.func46, Tryd.ntmps46
  go_wp2_with fail
  go_quiet (fail)
  go_wp2_with fail
  go_ret
  exact ⟨_, rfl, rfl⟩
theorem turn_13 (x : Nat) (w : World) (hx : x < 4294967296) :
    Calls Tryd.prog 46 #[.int .i64 x, .int .i64 13] w (TurnPost (Sh2.rot x 13) w) := by
  have m1 : IntKind.i64.wrap ((x : Int) * 524288) = (x : Int) * 524288 := IntWalk.i64_in _ (by omega)
  have m2 : bits .and .i64 ((x : Int) * 524288) 4294967295 = (x : Int) * 524288 % 4294967296 := mask32 (x * 524288) (by omega)
  have m3 : bits .or .i64 ((x : Int) / 8192) ((x : Int) * 524288 % 4294967296) = (Sh2.rot x 13 : Nat) := turn_bits x 13 8192 524288 hx (by decide) (by decide)
  go_enter Tryd.func46, Tryd.ntmps46
  go_wp2_with fail
  go_quiet (fail)
  go_wp2_with fail
  go_ret
  exact ⟨_, rfl, rfl⟩
theorem turn_17 (x : Nat) (w : World) (hx : x < 4294967296) :
    Calls Tryd.prog 46 #[.int .i64 x, .int .i64 17] w (TurnPost (Sh2.rot x 17) w) := by
  have m1 : IntKind.i64.wrap ((x : Int) * 32768) = (x : Int) * 32768 := IntWalk.i64_in _ (by omega)
  have m2 : bits .and .i64 ((x : Int) * 32768) 4294967295 = (x : Int) * 32768 % 4294967296 := mask32 (x * 32768) (by omega)
  have m3 : bits .or .i64 ((x : Int) / 131072) ((x : Int) * 32768 % 4294967296) = (Sh2.rot x 17 : Nat) := turn_bits x 17 131072 32768 hx (by decide) (by decide)
  go_enter Tryd.func46, Tryd.ntmps46
  go_wp2_with fail
  go_quiet (fail)
  go_wp2_with fail
  go_ret
  exact ⟨_, rfl, rfl⟩
theorem turn_18 (x : Nat) (w : World) (hx : x < 4294967296) :
    Calls Tryd.prog 46 #[.int .i64 x, .int .i64 18] w (TurnPost (Sh2.rot x 18) w) := by
  have m1 : IntKind.i64.wrap ((x : Int) * 16384) = (x : Int) * 16384 := IntWalk.i64_in _ (by omega)
  have m2 : bits .and .i64 ((x : Int) * 16384) 4294967295 = (x : Int) * 16384 % 4294967296 := mask32 (x * 16384) (by omega)
  have m3 : bits .or .i64 ((x : Int) / 262144) ((x : Int) * 16384 % 4294967296) = (Sh2.rot x 18 : Nat) := turn_bits x 18 262144 16384 hx (by decide) (by decide)
  go_enter Tryd.func46, Tryd.ntmps46
  go_wp2_with fail
  go_quiet (fail)
  go_wp2_with fail
  go_ret
  exact ⟨_, rfl, rfl⟩
theorem turn_19 (x : Nat) (w : World) (hx : x < 4294967296) :
    Calls Tryd.prog 46 #[.int .i64 x, .int .i64 19] w (TurnPost (Sh2.rot x 19) w) := by
  have m1 : IntKind.i64.wrap ((x : Int) * 8192) = (x : Int) * 8192 := IntWalk.i64_in _ (by omega)
  have m2 : bits .and .i64 ((x : Int) * 8192) 4294967295 = (x : Int) * 8192 % 4294967296 := mask32 (x * 8192) (by omega)
  have m3 : bits .or .i64 ((x : Int) / 524288) ((x : Int) * 8192 % 4294967296) = (Sh2.rot x 19 : Nat) := turn_bits x 19 524288 8192 hx (by decide) (by decide)
  go_enter Tryd.func46, Tryd.ntmps46
  go_wp2_with fail
  go_quiet (fail)
  go_wp2_with fail
  go_ret
  exact ⟨_, rfl, rfl⟩
theorem turn_22 (x : Nat) (w : World) (hx : x < 4294967296) :
    Calls Tryd.prog 46 #[.int .i64 x, .int .i64 22] w (TurnPost (Sh2.rot x 22) w) := by
  have m1 : IntKind.i64.wrap ((x : Int) * 1024) = (x : Int) * 1024 := IntWalk.i64_in _ (by omega)
  have m2 : bits .and .i64 ((x : Int) * 1024) 4294967295 = (x : Int) * 1024 % 4294967296 := mask32 (x * 1024) (by omega)
  have m3 : bits .or .i64 ((x : Int) / 4194304) ((x : Int) * 1024 % 4294967296) = (Sh2.rot x 22 : Nat) := turn_bits x 22 4194304 1024 hx (by decide) (by decide)
  go_enter Tryd.func46, Tryd.ntmps46
  go_wp2_with fail
  go_quiet (fail)
  go_wp2_with fail
  go_ret
  exact ⟨_, rfl, rfl⟩
theorem turn_25 (x : Nat) (w : World) (hx : x < 4294967296) :
    Calls Tryd.prog 46 #[.int .i64 x, .int .i64 25] w (TurnPost (Sh2.rot x 25) w) := by
  have m1 : IntKind.i64.wrap ((x : Int) * 128) = (x : Int) * 128 := IntWalk.i64_in _ (by omega)
  have m2 : bits .and .i64 ((x : Int) * 128) 4294967295 = (x : Int) * 128 % 4294967296 := mask32 (x * 128) (by omega)
  have m3 : bits .or .i64 ((x : Int) / 33554432) ((x : Int) * 128 % 4294967296) = (Sh2.rot x 25 : Nat) := turn_bits x 25 33554432 128 hx (by decide) (by decide)
  go_enter Tryd.func46, Tryd.ntmps46
  go_wp2_with fail
  go_quiet (fail)
  go_wp2_with fail
  go_ret
  exact ⟨_, rfl, rfl⟩
end Go.Proofs.YtlaoijnlemgdfaaDoor
