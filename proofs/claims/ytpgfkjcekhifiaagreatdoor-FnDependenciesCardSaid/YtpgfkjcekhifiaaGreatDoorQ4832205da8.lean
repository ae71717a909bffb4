/- Texts joined for one claim: Bits. -/
import Derived.WalkKit
import Derived.WalkSpells
import Derived.WalkLawsBesides

namespace Go.Proofs.YtpgfkjcekhifiaaGreatDoor

open Go.RowKit

set_option linter.unusedVariables false

set_option linter.unusedSimpArgs false

theorem bits_and_nat (a b : Nat) (ha : a < 9223372036854775808) (hb : b < 9223372036854775808) : bits .and .i64 (a : Int) (b : Int) = ((a &&& b : Nat) : Int) := by
  have hx : a &&& b < 2 ^ 63 := Nat.and_lt_two_pow _ (by omega)
  have h1 : (BitVec.ofInt 64 (a : Int)).toNat = a := by
    rw [BitVec.ofInt_natCast, BitVec.toNat_ofNat]; exact Nat.mod_eq_of_lt (by omega)
  have h2 : (BitVec.ofInt 64 (b : Int)).toNat = b := by
    rw [BitVec.ofInt_natCast, BitVec.toNat_ofNat]; exact Nat.mod_eq_of_lt (by omega)
  show IntKind.i64.wrap ((BitVec.ofInt 64 (a : Int) &&& BitVec.ofInt 64 (b : Int)).toNat : Int) = _
  rw [BitVec.toNat_and, h1, h2, IntWalk.i64_in _ (by omega)]

theorem bits_or_nat (a b : Nat) (ha : a < 9223372036854775808) (hb : b < 9223372036854775808) : bits .or .i64 (a : Int) (b : Int) = ((a ||| b : Nat) : Int) := by
  have hx : a ||| b < 2 ^ 63 := Nat.or_lt_two_pow (by omega) (by omega)
  have h1 : (BitVec.ofInt 64 (a : Int)).toNat = a := by
    rw [BitVec.ofInt_natCast, BitVec.toNat_ofNat]; exact Nat.mod_eq_of_lt (by omega)
  have h2 : (BitVec.ofInt 64 (b : Int)).toNat = b := by
    rw [BitVec.ofInt_natCast, BitVec.toNat_ofNat]; exact Nat.mod_eq_of_lt (by omega)
  show IntKind.i64.wrap ((BitVec.ofInt 64 (a : Int) ||| BitVec.ofInt 64 (b : Int)).toNat : Int) = _
  rw [BitVec.toNat_or, h1, h2, IntWalk.i64_in _ (by omega)]

def bitAt (K j : Nat) : Bool := K / 2 ^ j % 2 == 1

theorem bitAt_testBit (K j : Nat) : bitAt K j = K.testBit j := by
  unfold bitAt Nat.testBit
  rw [Nat.shiftRight_eq_div_pow, Nat.and_comm, Nat.and_one_is_mod]
  rcases (by omega : K / 2 ^ j % 2 = 0 ∨ K / 2 ^ j % 2 = 1) with h | h <;> simp [h]

theorem bit_test (K j : Nat) (hK : K < 9223372036854775808) : (bits BinOp.and IntKind.i64 ((K : Int) / 2 ^ j) 1 == 1) = bitAt K j := by
  have e : ((K : Int) / 2 ^ j) = ((K / 2 ^ j : Nat) : Int) := by simp
  have hb := bits_and_nat (K / 2 ^ j) 1 (by have := Nat.div_le_self K (2 ^ j); omega) (by omega)
  rw [e]
  have hb' : bits BinOp.and IntKind.i64 ((K / 2 ^ j : Nat) : Int) 1 = ((K / 2 ^ j % 2 : Nat) : Int) := by
    rw [← Nat.and_one_is_mod]; exact hb
  rw [hb']
  unfold bitAt
  rcases (by omega : K / 2 ^ j % 2 = 0 ∨ K / 2 ^ j % 2 = 1) with h | h <;> simp [h]

theorem bit_test0 (K j : Nat) (hK : K < 9223372036854775808) : (bits BinOp.and IntKind.i64 ((K : Int) / 2 ^ j) 1 == 0) = !bitAt K j := by
  have h := bit_test K j hK
  have e : ((K : Int) / 2 ^ j) = ((K / 2 ^ j : Nat) : Int) := by simp
  have hb := bits_and_nat (K / 2 ^ j) 1 (by have := Nat.div_le_self K (2 ^ j); omega) (by omega)
  have hb' : bits BinOp.and IntKind.i64 ((K / 2 ^ j : Nat) : Int) 1 = ((K / 2 ^ j % 2 : Nat) : Int) := by
    rw [← Nat.and_one_is_mod]; exact hb
  rw [e, hb']
  unfold bitAt
  rcases (by omega : K / 2 ^ j % 2 = 0 ∨ K / 2 ^ j % 2 = 1) with h | h <;> simp [h]

def bitsTo (K : Nat) : Nat → List Int
  | 0 => []
  | m + 1 => bitsTo K m ++ (if bitAt K m then [(m : Int)] else [])

theorem bitsTo_yes {K m : Nat} (h : bitAt K m = true) : bitsTo K (m + 1) = bitsTo K m ++ [(m : Int)] := by simp [bitsTo, h]

theorem bitsTo_no {K m : Nat} (h : bitAt K m = false) : bitsTo K (m + 1) = bitsTo K m := by simp [bitsTo, h]

theorem bitsTo_len (K : Nat) : ∀ m, (bitsTo K m).length ≤ m
  | 0 => by simp [bitsTo]
  | m + 1 => by
    have := bitsTo_len K m
    simp only [bitsTo, List.length_append]
    split <;> simp <;> omega

end Go.Proofs.YtpgfkjcekhifiaaGreatDoor
