/-
  GetWide and PutWide, plainly: numbers of up to eight bytes, the highest first.
-/
import Derived.Test.YtmfogabkpeoagaaInt
import Derived.Test.YtmfogabkpeoagaaPiece
import Derived.Laws.Bits64
namespace Go.Proofs.Ytmfogabkpeoagaa
open Go.RowKit

/-- The number of some bytes. -/
def big (l : List UInt8) : Nat := l.foldl (fun n b => 256 * n + b.toNat) 0
theorem big_snoc (l : List UInt8) (b : UInt8) : big (l ++ [b]) = 256 * big l + b.toNat := by simp [big]

theorem big_fold (l : List UInt8) : ∀ a : Nat, l.foldl (fun n b => 256 * n + b.toNat) a < (a + 1) * 256 ^ l.length := by
  induction l with
  | nil => intro a; simp
  | cons b l ih =>
    intro a
    have hb : b.toNat < 256 := UInt8.toNat_lt b
    have h := ih (256 * a + b.toNat)
    simp only [List.foldl_cons, List.length_cons, Nat.pow_succ]
    refine Nat.lt_of_lt_of_le h ?_
    rw [Nat.mul_comm (256 ^ l.length) 256, ← Nat.mul_assoc]
    exact Nat.mul_le_mul_right _ (by omega)
theorem big_lt (l : List UInt8) : big l < 256 ^ l.length := by
  have := big_fold l 0
  simpa [big] using this
theorem big_piece_lt (s : ByteArray) (i n : Nat) (h : i + n ≤ s.size) (hn : n ≤ 7) : big (piece s i n) < 72057594037927936 := by
  have h1 := big_lt (piece s i n)
  rw [piece_len s i n h] at h1
  have h2 : 256 ^ n ≤ 256 ^ 7 := Nat.pow_le_pow_right (by omega) hn
  omega
theorem ofInt_wrap (z : Int) (n : Nat) (h : z % 18446744073709551616 = (n : Int) % 18446744073709551616) : (BitVec.ofInt 64 z).toNat = n % 18446744073709551616 := by
  rw [BitVec.toNat_ofInt]
  omega
theorem i64_step (B b : Nat) (hb : b < 256) : bits .or .i64 (wrap64 (i64of B * 256)) (b : Int) = i64of (256 * B + b) := by
  unfold bits i64of
  have h1 := ofInt_wrap (wrap64 (wrap64 (B : Int) * 256)) (256 * B) (by rw [wrap64_eq, wrap64_eq]; omega)
  have h2 := ofInt_wrap (b : Int) b rfl
  have h3 : (256 * B) % 18446744073709551616 ||| b % 18446744073709551616 = (256 * B + b) % 18446744073709551616 := by
    have e1 : (256 * B) % 18446744073709551616 = (B % 72057594037927936) <<< 8 := by rw [Nat.shiftLeft_eq]; omega
    have e2 : b % 18446744073709551616 = b := by omega
    rw [e1, e2, ← Nat.shiftLeft_add_eq_or_of_lt (by omega), Nat.shiftLeft_eq]
    omega
  show IntKind.i64.wrap ((BitVec.ofInt 64 (wrap64 (wrap64 (B : Int) * 256)) ||| BitVec.ofInt 64 (b : Int)).toNat : Int) = _
  rw [BitVec.toNat_or, h1, h2, h3, IntKind.wrap_i64, wrap64_eq]
  omega

def gwOk (s : ByteArray) (i m : Int) : Prop := 1 ≤ m ∧ m ≤ 8 ∧ 0 ≤ i ∧ i ≤ s.size - m
instance (s : ByteArray) (i m : Int) : Decidable (gwOk s i m) := by unfold gwOk; infer_instance
/-- What GetWide hands back. -/
def gwN (s : ByteArray) (i m : Int) : Int := if gwOk s i m then i64of (big (piece s i.toNat m.toNat)) else 0
def gwB (s : ByteArray) (i m : Int) : Bool := decide (gwOk s i m)

end Go.Proofs.Ytmfogabkpeoagaa
