/- Walks of field.double, Mul, power, Inv, Pow, Add. -/
import Derived.Test.YtilaipdpbcfhkaaDoorProg
import Derived.Test.YtilaipdpbcfhkaaDoorSl
import Derived.Test.YtilaipdpbcfhkaaDoorFieldMath
namespace Go.Proofs.YtilaipdpbcfhkaaDoor
set_option linter.unusedVariables false
open Go.RowKit Go.Mny
theorem ofInt_u8 (a : Nat) (ha : a < 256) : (BitVec.ofInt 8 (a : Int)).toNat = a := by
  rw [BitVec.ofInt_natCast, BitVec.toNat_ofNat]; exact Nat.mod_eq_of_lt (by omega)
theorem u8_in (n : Nat) (h : n < 256) : IntKind.u8.wrap (n : Int) = n := by
  unfold IntKind.wrap; simp [IntKind.signed, IntKind.bits]; omega
theorem u8_and (a b : Nat) (ha : a < 256) (hb : b < 256) : bits .and .u8 (a : Int) (b : Int) = ((a &&& b : Nat) : Int) := by
  have h : a &&& b ≤ a := Nat.and_le_left
  show IntKind.u8.wrap ((BitVec.ofInt 8 (a : Int) &&& BitVec.ofInt 8 (b : Int)).toNat : Int) = _
  rw [BitVec.toNat_and, ofInt_u8 a ha, ofInt_u8 b hb]
  exact u8_in _ (by omega)
theorem u8_xor (a b : Nat) (ha : a < 256) (hb : b < 256) : bits .xor .u8 (a : Int) (b : Int) = ((a ^^^ b : Nat) : Int) := by
  have h : a ^^^ b < 256 := Fld.xor_lt a b ha hb
  show IntKind.u8.wrap ((BitVec.ofInt 8 (a : Int) ^^^ BitVec.ofInt 8 (b : Int)).toNat : Int) = _
  rw [BitVec.toNat_xor, ofInt_u8 a ha, ofInt_u8 b hb]
  exact u8_in _ h
theorem add_any (a b : Nat) (w : World) (ha : a < 256) (hb : b < 256) :
    Calls Tryd.prog 6 #[.int .u8 a, .int .u8 b] w fun e w' => e = .returned (.int .u8 (a ^^^ b : Nat)) ∧ w = w' := by
  have hx := u8_xor a b ha hb
  go_enter Tryd.func6, Tryd.ntmps6
  go_wp2
  go_ret
  exact ⟨rfl, rfl⟩
theorem u8_and128 (a : Nat) (ha : a < 256) : bits .and .u8 (a : Int) 128 = ((a &&& 128 : Nat) : Int) := u8_and a 128 ha (by decide)
theorem u8_and1 (a : Nat) (ha : a < 256) : bits .and .u8 (a : Int) 1 = ((a % 2 : Nat) : Int) := by
  have := u8_and a 1 ha (by decide)
  rw [Nat.and_one_is_mod] at this
  exact this
theorem i64_and1 (a : Nat) (ha : a < 9223372036854775808) : bits .and .i64 (a : Int) 1 = ((a % 2 : Nat) : Int) := by
  have := i64_and a 1 ha (by decide)
  rw [Nat.and_one_is_mod] at this
  exact this
theorem u8_xor27 (a : Nat) (ha : a < 256) : bits .xor .u8 ((a : Int) * 2 % 256) 27 = (((a * 2 % 256) ^^^ 27 : Nat) : Int) := by
  have := u8_xor (a * 2 % 256) 27 (by omega) (by decide)
  rw [← this]; congr 1
theorem double_any (a : Nat) (w : World) (ha : a < 256) :
    Calls Tryd.prog 24 #[.int .u8 a] w fun e w' => e = .returned (.int .u8 (Fld.dbl a : Nat)) ∧ w = w' := by
  by_cases h : a &&& 128 = 0
  · have hx := u8_and128 a ha
    rw [h] at hx
    have hd := hid (show Fld.dbl a = a * 2 % 256 from if_pos h)
    clear h
    go_enter Tryd.func24, Tryd.ntmps24
    go_wp2
    go_ret
    exact ⟨by rw [hd.out]; rfl, rfl⟩
  · have hx : (bits .and .u8 (a : Int) 128 != 0) = true := by rw [u8_and128 a ha]; simp; omega
    have hd := hid (show Fld.dbl a = (a * 2 % 256) ^^^ 27 from if_neg h)
    have hy := u8_xor27 a ha
    clear h
    go_enter Tryd.func24, Tryd.ntmps24
    go_wp2
    go_ret
    exact ⟨by rw [hd.out]; rfl, rfl⟩
set_option maxRecDepth 100000 in
theorem mul_any (a b : Nat) (w : World) (ha : a < 256) (hb : b < 256) :
    Calls Tryd.prog 7 #[.int .u8 a, .int .u8 b] w fun e w' => e = .returned (.int .u8 (Fld.mul a b : Nat)) ∧ w = w' := by
  go_enter Tryd.func7, Tryd.ntmps7
  go_wp2_with fail
  go_loop [0, 1, 5] (fun v0 v1 v5 => ∃ f p x y : Nat, v0 = .int .u8 x ∧ v1 = .int .u8 y ∧ v5 = .int .u8 p ∧ x < 256 ∧ p < 256 ∧ y < 256 ∧ Hid (y < 2 ^ f) ∧ Hid (Fld.mulGo f p x y = Fld.mul a b)) (fun _ v1 _ => (intOf v1).toNat)
  case atStart => exact ⟨8, 0, a, b, rfl, rfl, rfl, ha, by decide, hb, hb, rfl⟩
  case round =>
    obtain ⟨f, p, x, y, rfl, rfl, rfl, hx, hp, hy, HY, HM⟩ := hrel
    cases f with
    | zero =>
      have y0 : y = 0 := by have := HY.out; omega
      subst y0
      have hm : p = Fld.mul a b := HM.out
      clear HY HM
      go_wp2_with fail
      go_ret
      exact ⟨by rw [← hm]; rfl, rfl⟩
    | succ f =>
      by_cases y0 : y = 0
      · subst y0
        have hm : p = Fld.mul a b := HM.out
        clear HY HM
        go_wp2_with fail
        go_ret
        exact ⟨by rw [← hm]; rfl, rfl⟩
      · have hm := HM.out
        unfold Fld.mulGo at hm
        rw [if_neg y0] at hm
        have y1 : (0 : Int) < y := by omega
        have b1 := u8_and1 y hy
        have hf : Hid (y / 2 < 2 ^ f) := Nat.div_lt_of_lt_mul (by have := HY.out; rw [Nat.pow_succ, Nat.mul_comm] at this; exact this)
        by_cases hodd : y % 2 = 1
        · rw [if_pos hodd] at hm
          rw [hodd] at b1
          have HM2 := hid hm
          have hx2 := u8_xor p x hp hx
          have hpx := Fld.xor_lt p x hp hx
          clear hm HM HY hodd
          go_wp2_with fail
          refine (double_any x _ hx).mono ?_
          rintro e w' ⟨rfl, rfl⟩
          go_wp2_with fail
          go_round
          case rel => exact ⟨f, p ^^^ x, Fld.dbl x, y / 2, rfl, by go_num, rfl, Fld.dbl_lt x, hpx, by omega, hf, HM2⟩
          case measure => simp [intOf]; omega
        · rw [if_neg hodd] at hm
          rw [show y % 2 = 0 by omega] at b1
          have HM2 := hid hm
          clear hm HM HY hodd
          go_wp2_with fail
          refine (double_any x _ hx).mono ?_
          rintro e w' ⟨rfl, rfl⟩
          go_wp2_with fail
          go_round
          case rel => exact ⟨f, p, Fld.dbl x, y / 2, rfl, by go_num, rfl, Fld.dbl_lt x, hp, by omega, hf, HM2⟩
          case measure => simp [intOf]; omega
set_option maxRecDepth 100000 in
theorem power_any (a n : Nat) (w : World) (ha : a < 256) (hn : n ≤ 9223372036854775807) :
    Calls Tryd.prog 27 #[.int .u8 a, .int .i64 n] w fun e w' => e = .returned (.int .u8 (Fld.pow a n : Nat)) ∧ w = w' := by
  go_enter Tryd.func27, Tryd.ntmps27
  go_wp2_with fail
  go_loop [0, 1, 5] (fun v0 v1 v5 => ∃ f p x y : Nat, v0 = .int .u8 x ∧ v1 = .int .i64 y ∧ v5 = .int .u8 p ∧ x < 256 ∧ p < 256 ∧ y ≤ 9223372036854775807 ∧ Hid (y < 2 ^ f) ∧ Hid (Fld.powGo f p x y = Fld.pow a n)) (fun _ v1 _ => (intOf v1).toNat)
  case atStart => exact ⟨64, 1, a, n, rfl, rfl, rfl, ha, by decide, hn, Nat.lt_of_le_of_lt hn (by decide), rfl⟩
  case round =>
    obtain ⟨f, p, x, y, rfl, rfl, rfl, hx, hp, hy, HY, HM⟩ := hrel
    cases f with
    | zero =>
      have y0 : y = 0 := by have := HY.out; omega
      subst y0
      have hm : p = Fld.pow a n := HM.out
      clear HY HM
      go_wp2_with fail
      go_ret
      exact ⟨by rw [← hm]; rfl, rfl⟩
    | succ f =>
      by_cases y0 : y = 0
      · subst y0
        have hm : p = Fld.pow a n := HM.out
        clear HY HM
        go_wp2_with fail
        go_ret
        exact ⟨by rw [← hm]; rfl, rfl⟩
      · have hm := HM.out
        unfold Fld.powGo at hm
        rw [if_neg y0] at hm
        have y1 : (0 : Int) < y := by omega
        have b1 := i64_and1 y (by omega)
        have hf : Hid (y / 2 < 2 ^ f) := Nat.div_lt_of_lt_mul (by have := HY.out; rw [Nat.pow_succ, Nat.mul_comm] at this; exact this)
        have hxx := Fld.mul_lt x x hx
        by_cases hodd : y % 2 = 1
        · rw [if_pos hodd] at hm
          rw [hodd] at b1
          have HM2 := hid hm
          have hpx := Fld.mul_lt p x hp
          clear hm HM HY hodd
          go_wp2_with fail
          refine (mul_any p x _ hp hx).mono ?_
          rintro e w' ⟨rfl, rfl⟩
          go_wp2_with fail
          refine (mul_any x x _ hx hx).mono ?_
          rintro e w' ⟨rfl, rfl⟩
          go_wp2_with fail
          go_round
          case rel => exact ⟨f, Fld.mul p x, Fld.mul x x, y / 2, rfl, by go_num, rfl, hxx, hpx, by omega, hf, HM2⟩
          case measure => simp [intOf]; omega
        · rw [if_neg hodd] at hm
          rw [show y % 2 = 0 by omega] at b1
          have HM2 := hid hm
          clear hm HM HY hodd
          go_wp2_with fail
          refine (mul_any x x _ hx hx).mono ?_
          rintro e w' ⟨rfl, rfl⟩
          go_wp2_with fail
          go_round
          case rel => exact ⟨f, p, Fld.mul x x, y / 2, rfl, by go_num, rfl, hxx, hp, by omega, hf, HM2⟩
          case measure => simp [intOf]; omega
theorem pow_ok (a n : Nat) (w : World) (ha : a < 256) (hn : n ≤ 9223372036854775807) :
    Calls Tryd.prog 13 #[.int .u8 a, .int .i64 n] w fun e w' => e = .returned (.tuple #[.int .u8 (Fld.pow a n : Nat), .nilIface]) ∧ w = w' := by
  go_enter Tryd.func13, Tryd.ntmps13
  go_wp2_with fail
  refine (power_any a n _ ha hn).mono ?_
  rintro e w' ⟨rfl, rfl⟩
  go_wp2_with fail
  go_ret2
  exact ⟨rfl, rfl⟩
theorem inv_ok (a : Nat) (w : World) (ha : a < 256) (h0 : a ≠ 0) :
    Calls Tryd.prog 10 #[.int .u8 a] w fun e w' => e = .returned (.tuple #[.int .u8 (Fld.inv a : Nat), .nilIface]) ∧ w = w' := by
  have he : ((a : Int) == 0) = false := by simp; omega
  have C := hid (fun w => power_any a 254 w ha (by decide))
  go_enter Tryd.func10, Tryd.ntmps10
  go_wp2_with fail
  refine (unhid C _).mono ?_
  rintro e w' ⟨rfl, rfl⟩
  go_wp2_with fail
  go_ret2
  exact ⟨rfl, rfl⟩
end Go.Proofs.YtilaipdpbcfhkaaDoor
