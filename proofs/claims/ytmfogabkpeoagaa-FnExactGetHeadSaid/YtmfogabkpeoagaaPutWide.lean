/-
  PutWide: the bytes of a number, the highest first.
-/
import Derived.Test.YtmfogabkpeoagaaWide
import Derived.Deep.LoopGhost
namespace Go.Proofs.Ytmfogabkpeoagaa
open Go.RowKit
set_option linter.unusedVariables false

/-- Byte number k of a number, counted from the lowest. -/
def byteOf (n : Int) (k : Nat) : UInt8 := UInt8.ofNat ((n / (256 : Int) ^ k) % 256).toNat
/-- The m lowest bytes of a number, the highest first. -/
def wide (n : Int) (m : Nat) : List UInt8 := (List.range m).reverse.map (byteOf n)
theorem wide_succ (n : Int) (m : Nat) : wide n (m + 1) = byteOf n m :: wide n m := by
  simp [wide, List.range_succ]
theorem wide_len (n : Int) (m : Nat) : (wide n m).length = m := by simp [wide]
/-- What has been written when the bytes from m - 1 down to k have been. -/
theorem wide_take (n : Int) (m t : Nat) (h : t < m) : (wide n m).take (t + 1) = (wide n m).take t ++ [byteOf n (m - 1 - t)] := by
  have hl : t < (wide n m).length := by rw [wide_len]; exact h
  rw [List.take_succ_eq_append_getElem hl]
  congr 2
  simp [wide]
theorem own_cells {w : World} {base : Nat} {e : TypeId} {g c n : Nat} {xs : List Value} (h : w.ownsRow base e 1 (.slice (some ⟨g, 0, none⟩) n c) n xs) : ∀ (j : Nat) (u : Value), xs[j]? = some u → w.cell? ((⟨g, 0, none⟩ : Addr).add j) = some u :=
  h.cells rfl
theorem own_form {w : World} {base : Nat} {e : TypeId} {v : Value} {n : Nat} {xs : List Value} (h : w.ownsRow base e 1 v n xs) (hn : 0 < n) : ∃ g c, v = .slice (some ⟨g, 0, none⟩) n c := by
  rcases h.2 with ⟨_, h0⟩ | ⟨g, c, _, hv, _⟩
  · omega
  · exact ⟨g, c, hv⟩
theorem byteOf_nat (n k : Nat) : ((byteOf n k).toNat : Int) = ((n / 256 ^ k : Nat) : Int) % 256 := by
  unfold byteOf
  have e : ((n : Int) / (256 : Int) ^ k) = ((n / 256 ^ k : Nat) : Int) := by simp
  rw [e, UInt8.toNat_ofNat']
  omega
theorem byte_spec (n k : Nat) : Value.int .u8 (((n : Int) / 256 ^ k).tmod 256 % 256) = bv (byteOf n k) := by
  unfold bv
  rw [byteOf_nat, show ((n : Int) / 256 ^ k) = ((n / 256 ^ k : Nat) : Int) by simp]
  generalize n / 256 ^ k = x
  rw [Int.tmod_eq_emod_of_nonneg (by omega)]
  congr 1
  omega
theorem div_spec (n k : Nat) (hn : n < 18446744073709551616) : IntKind.u64.wrap (((n : Int) / 256 ^ k).tdiv 256) = ((n / 256 ^ (k + 1) : Nat) : Int) := by
  rw [Nat.pow_succ, ← Nat.div_div_eq_div_mul, show ((n : Int) / 256 ^ k) = ((n / 256 ^ k : Nat) : Int) by simp]
  have h : n / 256 ^ k ≤ n := Nat.div_le_self _ _
  generalize n / 256 ^ k = x at *
  rw [Int.tdiv_eq_ediv_of_nonneg (by omega), IntKind.wrap_u64]
  omega
theorem byte_impl (n : Int) (k : Nat) : Value.int .u8 (n / 2 ^ (8 * k) % 256) = bv (byteOf n k) := by
  have e : (2 : Int) ^ (8 * k) = 256 ^ k := by rw [Int.pow_mul]; rfl
  rw [e]
  unfold bv byteOf
  rw [UInt8.toNat_ofNat']
  congr 1
  generalize n / 256 ^ k = x
  omega

set_option maxHeartbeats 1000000 in
theorem byteOf_mod (n : Int) (k : Nat) (hk : k < 8) : byteOf (n % 18446744073709551616) k = byteOf n k := by
  unfold byteOf
  congr 2
  have hs : k = 0 ∨ k = 1 ∨ k = 2 ∨ k = 3 ∨ k = 4 ∨ k = 5 ∨ k = 6 ∨ k = 7 := by omega
  rcases hs with rfl | rfl | rfl | rfl | rfl | rfl | rfl | rfl <;> simp only [Int.reducePow] <;> omega
theorem wide_mod (n : Int) (m : Nat) (hm : m ≤ 8) : wide (n % 18446744073709551616) m = wide n m := by
  unfold wide
  apply List.map_congr_left
  intro k hk
  have : k < m := by simpa using hk
  exact byteOf_mod n k (by omega)
/-- What PutWide hands back. -/
def pw (n m : Int) : List UInt8 := if 1 ≤ m ∧ m ≤ 8 then wide n m.toNat else []

end Go.Proofs.Ytmfogabkpeoagaa
