/-
  Numbers of 64 bits.
-/
import Derived.Test.YtlgonfdodmipeaaDoorKit
namespace Go.Proofs.YtlgonfdodmipeaaDoor
open Go.RowKit

/-- A number as a value of 64 bits. -/
def i64of (n : Nat) : Int := wrap64 (n : Int)
theorem wrap64_eq (n : Int) : wrap64 n = (n + 9223372036854775808) % 18446744073709551616 - 9223372036854775808 := by unfold wrap64; rfl
theorem i64of_zero : i64of 0 = 0 := by unfold i64of; rw [wrap64_eq]; rfl
theorem i64of_small (n : Nat) (h : n < 9223372036854775808) : i64of n = (n : Int) := by unfold i64of; rw [wrap64_eq]; omega
theorem i64of_succ (n : Nat) : wrap64 (i64of n + 1) = i64of (n + 1) := by unfold i64of; rw [wrap64_eq, wrap64_eq, wrap64_eq]; omega
end Go.Proofs.YtlgonfdodmipeaaDoor
