/- What the machine's words are, as plain numbers. -/
import Derived.Test.YtmmpcpdokgahcaaMath
import Derived.Laws.Entries
import Derived.RowKit
namespace Go.Proofs.Ytmmpcpdokgahcaa
namespace CM
open Go.RowKit
theorem w_xor (a b : Nat) (ha : a < 4294967296) (hb : b < 4294967296) : bits .xor .u32 (a : Int) (b : Int) = ((a ^^^ b : Nat) : Int) := by
  unfold bits
  simp only [BitVec.ofInt_natCast]
  have e : (BitVec.ofNat IntKind.u32.bits a ^^^ BitVec.ofNat IntKind.u32.bits b).toNat = a ^^^ b := by
    show (BitVec.ofNat 32 a ^^^ BitVec.ofNat 32 b).toNat = _
    rw [BitVec.toNat_xor, BitVec.toNat_ofNat, BitVec.toNat_ofNat, Nat.mod_eq_of_lt (by omega), Nat.mod_eq_of_lt (by omega)]
  rw [e]
  have : a ^^^ b < 2 ^ 32 := Nat.xor_lt_two_pow ha hb
  show ((a ^^^ b : Nat) : Int) % 4294967296 = _
  omega
theorem w_and (a b : Nat) (ha : a < 4294967296) (hb : b < 4294967296) : bits .and .u32 (a : Int) (b : Int) = ((a &&& b : Nat) : Int) := by
  unfold bits
  simp only [BitVec.ofInt_natCast]
  have e : (BitVec.ofNat IntKind.u32.bits a &&& BitVec.ofNat IntKind.u32.bits b).toNat = a &&& b := by
    show (BitVec.ofNat 32 a &&& BitVec.ofNat 32 b).toNat = _
    rw [BitVec.toNat_and, BitVec.toNat_ofNat, BitVec.toNat_ofNat, Nat.mod_eq_of_lt (by omega), Nat.mod_eq_of_lt (by omega)]
  rw [e]
  have := @Nat.and_le_left a b
  show ((a &&& b : Nat) : Int) % 4294967296 = _
  omega
theorem w_low (a : Nat) (ha : a < 4294967296) : bits .and .u32 (a : Int) 1 = ((a % 2 : Nat) : Int) := by
  have := w_and a 1 ha (by decide)
  rw [Nat.and_one_is_mod] at this; exact this
theorem w_nib (a : Nat) (ha : a < 4294967296) : bits .and .u32 (a : Int) 15 = ((a % 16 : Nat) : Int) := by
  have := w_and a 15 ha (by decide)
  have e : a &&& 15 = a % 16 := Nat.and_two_pow_sub_one_eq_mod a 4
  rw [e] at this; exact this
theorem w_not (a : Nat) (ha : a < 4294967296) : bits .xor .u32 IntKind.u32.max (a : Int) = ((flip a : Nat) : Int) := by
  have e : IntKind.u32.max = ((4294967295 : Nat) : Int) := by decide
  rw [e, w_xor _ _ (by decide) ha, Nat.xor_comm]; rfl
/-- a bit, as the code spells it -/
theorem bit_code (a : Nat) (ha : a < 4294967296) : bits .xor .u32 ((a : Int) / 2) (bits .and .u32 2197175160 (-(bits .and .u32 (a : Int) 1) % 4294967296)) = ((bit a : Nat) : Int) := by
  rw [w_low a ha]
  have h : a % 2 = 0 ∨ a % 2 = 1 := by omega
  have e2 : (a : Int) / 2 = ((a / 2 : Nat) : Int) := by omega
  unfold bit
  rcases h with h | h
  · rw [h, if_neg (by decide)]
    have e1 : bits .and .u32 2197175160 (-((0 : Nat) : Int) % 4294967296) = ((0 : Nat) : Int) := by decide
    rw [e1, e2, w_xor _ _ (by omega) (by decide), Nat.xor_zero]
  · rw [h, if_pos rfl]
    have e1 : bits .and .u32 2197175160 (-((1 : Nat) : Int) % 4294967296) = ((2197175160 : Nat) : Int) := by decide
    rw [e1, e2, w_xor _ _ (by omega) (by decide)]; rfl
end CM
end Go.Proofs.Ytmmpcpdokgahcaa
