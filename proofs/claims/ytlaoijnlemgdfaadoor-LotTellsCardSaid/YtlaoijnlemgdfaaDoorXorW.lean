/- Exclusive or, of bytes. -/
import Derived.Test.YtlaoijnlemgdfaaDoorProg
import Derived.Test.YtlaoijnlemgdfaaDoorArr
namespace Go.Proofs.YtlaoijnlemgdfaaDoor
open Go.RowKit Go.Mny
theorem xor_lt' (a b : Nat) (ha : a < 256) (hb : b < 256) : a ^^^ b < 256 := Nat.xor_lt_two_pow (n := 8) ha hb
theorem ofInt_u8' (a : Nat) (ha : a < 256) : (BitVec.ofInt 8 (a : Int)).toNat = a := by
  rw [BitVec.ofInt_natCast, BitVec.toNat_ofNat]; exact Nat.mod_eq_of_lt (by omega)
theorem u8_xor' (a b : Nat) (ha : a < 256) (hb : b < 256) : bits .xor .u8 (a : Int) (b : Int) = ((a ^^^ b : Nat) : Int) := by
  have h : a ^^^ b < 256 := xor_lt' a b ha hb
  show IntKind.u8.wrap ((BitVec.ofInt 8 (a : Int) ^^^ BitVec.ofInt 8 (b : Int)).toNat : Int) = _
  rw [BitVec.toNat_xor, ofInt_u8' a ha, ofInt_u8' b hb]
  generalize a ^^^ b = n at h
  unfold IntKind.wrap; simp [IntKind.signed, IntKind.bits]; omega
end Go.Proofs.YtlaoijnlemgdfaaDoor
