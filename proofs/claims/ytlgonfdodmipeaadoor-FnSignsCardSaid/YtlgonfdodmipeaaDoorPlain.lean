/-
  Plain facts on lists of bytes; no program.
-/
import Derived.Test.YtlgonfdodmipeaaDoorBase
import Derived.Laws.BitsAllLaws
namespace Go.Proofs.YtlgonfdodmipeaaDoor
open Go.RowKit

/-- A byte as a value. -/
def bv (b : UInt8) : Value := .int .u8 (b.toNat : Int)

theorem bv_one (l : List UInt8) : ∀ u ∈ l.map bv, u.oneCell' = true := by
  intro u hu
  obtain ⟨_, _, rfl⟩ := List.mem_map.1 hu
  rfl

/-- The text of a list of bytes. -/
def str (l : List UInt8) : ByteArray := ⟨l.toArray⟩

/-- One hexadecimal digit. -/
def hexD (n : Nat) : UInt8 := if n < 10 then UInt8.ofNat (48 + n) else UInt8.ofNat (87 + n)
def hexOf (l : List UInt8) : List UInt8 := l.flatMap fun b => [hexD (b.toNat / 16), hexD (b.toNat % 16)]
theorem hexOf_len (l : List UInt8) : (hexOf l).length = 2 * l.length := by
  induction l with
  | nil => rfl
  | cons b l ih => simp only [hexOf, List.flatMap_cons, List.length_append, List.length_cons, List.length_nil] at *; omega
theorem hexOf_snoc (l : List UInt8) (b : UInt8) : hexOf (l ++ [b]) = hexOf l ++ [hexD (b.toNat / 16), hexD (b.toNat % 16)] := by
  simp [hexOf]
theorem take_snoc (s : ByteArray) (k : Nat) (h : k < s.size) : s.data.toList.take (k + 1) = s.data.toList.take k ++ [s[k]] := by
  rw [List.take_succ_eq_append_getElem (by simpa using h)]; rfl

theorem and15 (n : Nat) (h : n < 256) : bits .and .u8 (n : Int) 15 = ((n % 16 : Nat) : Int) := by
  rw [show (15 : Int) = ((15 : Nat) : Int) from rfl, u8_and_nat n 15 h (by omega)]
  congr 1
  exact Nat.and_two_pow_sub_one_eq_mod n 4
/-- The text of the sixteen digits. -/
theorem digit_at (n : Nat) (h : n < 16) : ∃ hn, (ByteArray.mk #[48, 49, 50, 51, 52, 53, 54, 55, 56, 57, 97, 98, 99, 100, 101, 102])[n]'hn = hexD n := by
  refine ⟨h, ?_⟩
  have : ∀ m : Fin 16, (ByteArray.mk #[48, 49, 50, 51, 52, 53, 54, 55, 56, 57, 97, 98, 99, 100, 101, 102])[m.val]'m.isLt = hexD m.val := by decide
  exact this ⟨n, h⟩
theorem digit_at' (n : Nat) (hn) : (ByteArray.mk #[48, 49, 50, 51, 52, 53, 54, 55, 56, 57, 97, 98, 99, 100, 101, 102])[n]'hn = hexD n := (digit_at n hn).2
theorem hex_cells (n : Nat) (p q) : #[Value.int .u8 (((ByteArray.mk #[48, 49, 50, 51, 52, 53, 54, 55, 56, 57, 97, 98, 99, 100, 101, 102])[((n : Int) / 16).toNat]'p).toNat : Int), Value.int .u8 (((ByteArray.mk #[48, 49, 50, 51, 52, 53, 54, 55, 56, 57, 97, 98, 99, 100, 101, 102])[((n : Int) % 16).toNat]'q).toNat : Int)].toList = [hexD (n / 16), hexD (n % 16)].map bv := by
  rw [digit_at', digit_at']
  have e1 : ((n : Int) / 16).toNat = n / 16 := by omega
  have e2 : ((n : Int) % 16).toNat = n % 16 := by omega
  rw [e1, e2]
  rfl
theorem quo16 (n : Nat) (h : n < 256) : IntKind.u8.wrap ((n : Int) / 16) = (n : Int) / 16 := by
  rw [IntKind.wrap_u8']; omega
theorem rem16 (n : Nat) : (n : Int).tmod 16 = (n : Int) % 16 := Int.tmod_eq_emod_of_nonneg (by omega)
end Go.Proofs.YtlgonfdodmipeaaDoor
