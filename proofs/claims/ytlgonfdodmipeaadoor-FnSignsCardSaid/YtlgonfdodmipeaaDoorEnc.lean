/-
  The bytes of a code point, plainly.
-/
import Derived.Test.YtlgonfdodmipeaaDoorLit
namespace Go.Proofs.YtlgonfdodmipeaaDoor
open Go.RowKit
set_option linter.unusedVariables false

/-- A number is a code point. -/
def isSg (n : Int) : Bool := decide ((0 ≤ n ∧ n < 55296) ∨ (57343 < n ∧ n ≤ 1114111))
/-- What PutSign hands back. -/
def signB (n : Int) : ByteArray := if isSg n then Utf8.encode n else ⟨#[]⟩

theorem ofInt_i64 (a : Nat) (ha : a < 9223372036854775808) : (BitVec.ofInt 64 (a : Int)).toNat = a := by
  rw [BitVec.ofInt_natCast, BitVec.toNat_ofNat]; omega
theorem and63 (n : Nat) (h : n < 9223372036854775808) : bits .and .i64 (n : Int) 63 = ((n % 64 : Nat) : Int) := by
  have h1 := ofInt_i64 n h
  have h2 := ofInt_i64 63 (by omega)
  show IntKind.i64.wrap ((BitVec.ofInt 64 (n : Int) &&& BitVec.ofInt 64 ((63 : Nat) : Int)).toNat : Int) = _
  rw [BitVec.toNat_and, h1, h2, Nat.and_two_pow_sub_one_eq_mod n 6, IntKind.wrap_i64]
  omega
theorem and63d (n d : Nat) (h : n < 9223372036854775808) : bits .and .i64 ((n : Int) / (d : Int)) 63 = ((n / d % 64 : Nat) : Int) := by
  have : n / d ≤ n := Nat.div_le_self _ _
  rw [show (n : Int) / (d : Int) = ((n / d : Nat) : Int) by simp]
  exact and63 _ (by omega)

theorem valid_of (n : Nat) (h : n < 55296 ∨ (57343 < n ∧ n < 1114112)) : Utf8.valid (n : Int) = true := by
  unfold Utf8.valid; simp; omega
theorem enc1 (n : Nat) (h : n < 128) : str [byteI n] = Utf8.encode (n : Int) := by
  have hv := valid_of n (by omega)
  unfold Utf8.encode byteI
  simp only [hv, if_true, Int.toNat_natCast]
  rw [if_pos h]
  rfl
theorem enc2 (n : Nat) (h : 128 ≤ n ∧ n < 2048) : str [byteI (192 + (n : Int) / 64), byteI (128 + (n : Int) % 64)] = Utf8.encode (n : Int) := by
  have hv := valid_of n (by omega)
  unfold Utf8.encode byteI
  simp only [hv, if_true, Int.toNat_natCast]
  rw [if_neg (by omega), if_pos (by omega), show (192 + (n : Int) / 64).toNat = 192 + n / 64 by omega, show (128 + (n : Int) % 64).toNat = 128 + n % 64 by omega]
  rfl
theorem enc3 (n : Nat) (h : (2048 ≤ n ∧ n < 55296) ∨ (57343 < n ∧ n < 65536)) : str [byteI (224 + (n : Int) / 4096), byteI (128 + (n : Int) / 64 % 64), byteI (128 + (n : Int) % 64)] = Utf8.encode (n : Int) := by
  have hv := valid_of n (by omega)
  unfold Utf8.encode byteI
  simp only [hv, if_true, Int.toNat_natCast]
  rw [if_neg (by omega), if_neg (by omega), if_pos (by omega), show (224 + (n : Int) / 4096).toNat = 224 + n / 4096 by omega, show (128 + (n : Int) % 64).toNat = 128 + n % 64 by omega, show (128 + (n : Int) / 64 % 64).toNat = 128 + n / 64 % 64 by omega]
  rfl
theorem enc4 (n : Nat) (h : 65536 ≤ n ∧ n < 1114112) : str [byteI (240 + (n : Int) / 262144), byteI (128 + (n : Int) / 4096 % 64), byteI (128 + (n : Int) / 64 % 64), byteI (128 + (n : Int) % 64)] = Utf8.encode (n : Int) := by
  have hv := valid_of n (by omega)
  unfold Utf8.encode byteI
  simp only [hv, if_true, Int.toNat_natCast]
  rw [if_neg (by omega), if_neg (by omega), if_neg (by omega), show (240 + (n : Int) / 262144).toNat = 240 + n / 262144 by omega, show (128 + (n : Int) / 4096 % 64).toNat = 128 + n / 4096 % 64 by omega, show (128 + (n : Int) % 64).toNat = 128 + n % 64 by omega, show (128 + (n : Int) / 64 % 64).toNat = 128 + n / 64 % 64 by omega]
  rfl
end Go.Proofs.YtlgonfdodmipeaaDoor
