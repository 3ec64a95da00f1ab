/-
  A piece of a text; plain.
-/
import Derived.Test.YtlgonfdodmipeaaDoorKit
namespace Go.Proofs.YtlgonfdodmipeaaDoor
open Go.RowKit

/-- The first bytes of a piece. -/
def piece (s : ByteArray) (i n : Nat) : List UInt8 := (s.data.toList.drop i).take n
theorem piece_succ (s : ByteArray) (i n : Nat) (h : i + n < s.size) : piece s i (n + 1) = piece s i n ++ [s[i + n]] := by
  have hl : n < (s.data.toList.drop i).length := by simp; have : s.data.size = s.size := rfl; omega
  unfold piece
  rw [List.take_succ_eq_append_getElem hl, List.getElem_drop]
  rfl
theorem piece_len (s : ByteArray) (i n : Nat) (h : i + n ≤ s.size) : (piece s i n).length = n := by
  unfold piece
  have : s.data.size = s.size := rfl
  simp; omega
end Go.Proofs.YtlgonfdodmipeaaDoor
