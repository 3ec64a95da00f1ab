/-
  GetWide and PutWide, plainly: numbers of up to eight bytes, the highest first.
-/
import Derived.Test.YtiffgiabnjdeoaaKit
import Derived.Laws.Bits64
namespace Go.Proofs.Ytiffgiabnjdeoaa
open Go.RowKit

/-- The number of some bytes. -/
def big (l : List UInt8) : Nat := l.foldl (fun n b => 256 * n + b.toNat) 0
theorem big_snoc (l : List UInt8) (b : UInt8) : big (l ++ [b]) = 256 * big l + b.toNat := by simp [big]

/-- The first bytes of a piece. -/
def piece (s : ByteArray) (i n : Nat) : List UInt8 := (s.data.toList.drop i).take n
theorem piece_succ (s : ByteArray) (i n : Nat) (h : i + n < s.size) : piece s i (n + 1) = piece s i n ++ [s[i + n]] := by
  have hl : n < (s.data.toList.drop i).length := by simp; have : s.data.size = s.size := rfl; omega
  unfold piece
  rw [List.take_succ_eq_append_getElem hl, List.getElem_drop]
  rfl
theorem big_fold (l : List UInt8) : ∀ a : Nat, l.foldl (fun n b => 256 * n + b.toNat) a < (a + 1) * 256 ^ l.length := by
  induction l with
  | nil => intro a; simp
  | cons b l ih =>
    intro a
    have hb : b.toNat < 256 := UInt8.toNat_lt b
    have h := ih (256 * a + b.toNat)
    simp only [List.foldl_cons, List.length_cons, Nat.pow_succ]
    refine Nat.lt_of_lt_of_le h ?_
    rw [Nat.mul_comm (256 ^ l.length) 256, ← Nat.mul_assoc]
    exact Nat.mul_le_mul_right _ (by omega)
theorem big_lt (l : List UInt8) : big l < 256 ^ l.length := by
  have := big_fold l 0
  simpa [big] using this
theorem piece_len (s : ByteArray) (i n : Nat) (h : i + n ≤ s.size) : (piece s i n).length = n := by
  unfold piece
  have : s.data.size = s.size := rfl
  simp; omega
theorem big_piece_lt (s : ByteArray) (i n : Nat) (h : i + n ≤ s.size) (hn : n ≤ 7) : big (piece s i n) < 72057594037927936 := by
  have h1 := big_lt (piece s i n)
  rw [piece_len s i n h] at h1
  have h2 : 256 ^ n ≤ 256 ^ 7 := Nat.pow_le_pow_right (by omega) hn
  omega
/-- A number as a value of 64 bits. -/
def i64of (n : Nat) : Int := wrap64 (n : Int)
theorem wrap64_eq (n : Int) : wrap64 n = (n + 9223372036854775808) % 18446744073709551616 - 9223372036854775808 := by unfold wrap64; rfl
theorem i64of_zero : i64of 0 = 0 := by unfold i64of; rw [wrap64_eq]; rfl
theorem ofInt_wrap (z : Int) (n : Nat) (h : z % 18446744073709551616 = (n : Int) % 18446744073709551616) : (BitVec.ofInt 64 z).toNat = n % 18446744073709551616 := by
  rw [BitVec.toNat_ofInt]
  omega
theorem i64_step (B b : Nat) (hb : b < 256) : bits .or .i64 (wrap64 (i64of B * 256)) (b : Int) = i64of (256 * B + b) := by
  unfold bits i64of
  have h1 := ofInt_wrap (wrap64 (wrap64 (B : Int) * 256)) (256 * B) (by rw [wrap64_eq, wrap64_eq]; omega)
  have h2 := ofInt_wrap (b : Int) b rfl
  have h3 : (256 * B) % 18446744073709551616 ||| b % 18446744073709551616 = (256 * B + b) % 18446744073709551616 := by
    have e1 : (256 * B) % 18446744073709551616 = (B % 72057594037927936) <<< 8 := by rw [Nat.shiftLeft_eq]; omega
    have e2 : b % 18446744073709551616 = b := by omega
    rw [e1, e2, ← Nat.shiftLeft_add_eq_or_of_lt (by omega), Nat.shiftLeft_eq]
    omega
  show IntKind.i64.wrap ((BitVec.ofInt 64 (wrap64 (wrap64 (B : Int) * 256)) ||| BitVec.ofInt 64 (b : Int)).toNat : Int) = _
  rw [BitVec.toNat_or, h1, h2, h3, IntKind.wrap_i64, wrap64_eq]
  omega

set_option maxHeartbeats 1000000 in
theorem specGetWide_yes (s : ByteArray) (i m : Nat) (w : World) (hs : s.size ≤ 1048576) (h1 : 1 ≤ m) (h2 : m ≤ 8) (h3 : i + m ≤ s.size) :
    Calls Try.prog 15 #[.string s, .int .i64 i, .int .i64 m] w fun e w' => e = .returned (.tuple #[.int .i64 (i64of (big (piece s i m))), .bool true]) ∧ w = w' := by
  go_enter Try.func15, Try.ntmps15
  go_wp2
  go_loop [8, 9] (fun n k => ∃ j : Nat, j ≤ m ∧ k = .int .i64 j ∧ n = .int .u64 (big (piece s i j))) (fun _ k => m - (intOf k).toNat)
  case atStart => exact ⟨0, by omega, rfl, rfl⟩
  case round =>
    obtain ⟨j, hj, rfl, rfl⟩ := hrel
    by_cases hlt : j < m
    · have hs2 := piece_succ s i j (by omega)
      have hB := big_piece_lt s i j (by omega) (by omega)
      have hu : s[i + j].toNat < 256 := UInt8.toNat_lt _
      have HS : Hid (big (piece s i (j + 1)) = 256 * big (piece s i j) + s[i + j].toNat) := by rw [hs2]; exact big_snoc _ _
      clear hs2
      go_wp2
      go_round
      case rel => exact ⟨j + 1, by omega, by go_num, by rw [HS.out]; go_num⟩
      case measure => simp [intOf]; omega
    · obtain rfl : j = m := by omega
      go_wp2
      go_ret2
      exact ⟨rfl, rfl⟩

set_option maxHeartbeats 1000000 in
theorem implGetWide_yes (s : ByteArray) (i m : Nat) (w : World) (hs : s.size ≤ 1048576) (h1 : 1 ≤ m) (h2 : m ≤ 8) (h3 : i + m ≤ s.size) :
    Calls Try.prog 16 #[.string s, .int .i64 i, .int .i64 m] w fun e w' => e = .returned (.tuple #[.int .i64 (i64of (big (piece s i m))), .bool true]) ∧ w = w' := by
  go_enter Try.func16, Try.ntmps16
  go_wp2
  go_loop [8, 26] (fun n k => ∃ j : Nat, j ≤ m ∧ k = .int .i64 j ∧ n = .int .i64 (i64of (big (piece s i j)))) (fun _ k => m - (intOf k).toNat)
  case atStart => exact ⟨0, by omega, rfl, by show _ = Value.int .i64 (i64of 0); rw [i64of_zero]⟩
  case round =>
    obtain ⟨j, hj, rfl, rfl⟩ := hrel
    by_cases hlt : j < m
    · have hs2 := piece_succ s i j (by omega)
      have hB := big_piece_lt s i j (by omega) (by omega)
      have hu : s[i + j].toNat < 256 := UInt8.toNat_lt _
      have HS : Hid (big (piece s i (j + 1)) = 256 * big (piece s i j) + s[i + j].toNat) := by rw [hs2]; exact big_snoc _ _
      clear hs2
      go_wp2
      go_round
      case rel => exact ⟨j + 1, by omega, by go_num, by rw [HS.out, i64_step _ _ hu]⟩
      case measure => simp [intOf]; omega
    · obtain rfl : j = m := by omega
      go_wp2
      go_ret2
      exact ⟨rfl, rfl⟩

def gwOk (s : ByteArray) (i m : Int) : Prop := 1 ≤ m ∧ m ≤ 8 ∧ 0 ≤ i ∧ i ≤ s.size - m
instance (s : ByteArray) (i m : Int) : Decidable (gwOk s i m) := by unfold gwOk; infer_instance
/-- What GetWide hands back. -/
def gwN (s : ByteArray) (i m : Int) : Int := if gwOk s i m then i64of (big (piece s i.toNat m.toNat)) else 0
def gwB (s : ByteArray) (i m : Int) : Bool := decide (gwOk s i m)

set_option maxHeartbeats 1000000 in
theorem specGetWide_no (s : ByteArray) (i m : Int) (w : World) (hs : s.size ≤ 1048576) (hm : -9223372036854775808 ≤ m ∧ m ≤ 9223372036854775807) (h : ¬ (1 ≤ m ∧ m ≤ 8 ∧ 0 ≤ i ∧ i ≤ s.size - m)) :
    Calls Try.prog 15 #[.string s, .int .i64 i, .int .i64 m] w fun e w' => e = .returned (.tuple #[.int .i64 0, .bool false]) ∧ w = w' := by
  go_enter Try.func15, Try.ntmps15
  go_wp2
  all_goals go_ret2
  all_goals exact ⟨rfl, rfl⟩

theorem specGetWide (s : ByteArray) (i m : Int) (w : World) (hs : s.size ≤ 1048576) (hm : -9223372036854775808 ≤ m ∧ m ≤ 9223372036854775807) :
    Calls Try.prog 15 #[.string s, .int .i64 i, .int .i64 m] w fun e w' => e = .returned (.tuple #[.int .i64 (gwN s i m), .bool (gwB s i m)]) ∧ w = w' := by
  by_cases h : gwOk s i m
  · have h' := h
    unfold gwOk at h'
    obtain ⟨i, rfl⟩ := Int.eq_ofNat_of_zero_le h'.2.2.1
    obtain ⟨m, rfl⟩ := Int.eq_ofNat_of_zero_le (show 0 ≤ m by omega)
    have := specGetWide_yes s i m w hs (by omega) (by omega) (by omega)
    simpa [gwN, gwB, h] using this
  · have := specGetWide_no s i m w hs hm (by unfold gwOk at h; exact h)
    simpa [gwN, gwB, h] using this

set_option maxHeartbeats 1000000 in
theorem implGetWide_no (s : ByteArray) (i m : Int) (w : World) (hs : s.size ≤ 1048576) (hm : -9223372036854775808 ≤ m ∧ m ≤ 9223372036854775807) (h : ¬ (1 ≤ m ∧ m ≤ 8 ∧ 0 ≤ i ∧ i ≤ s.size - m)) :
    Calls Try.prog 16 #[.string s, .int .i64 i, .int .i64 m] w fun e w' => e = .returned (.tuple #[.int .i64 0, .bool false]) ∧ w = w' := by
  go_enter Try.func16, Try.ntmps16
  go_wp2
  all_goals go_ret2
  all_goals exact ⟨rfl, rfl⟩

theorem implGetWide (s : ByteArray) (i m : Int) (w : World) (hs : s.size ≤ 1048576) (hm : -9223372036854775808 ≤ m ∧ m ≤ 9223372036854775807) :
    Calls Try.prog 16 #[.string s, .int .i64 i, .int .i64 m] w fun e w' => e = .returned (.tuple #[.int .i64 (gwN s i m), .bool (gwB s i m)]) ∧ w = w' := by
  by_cases h : gwOk s i m
  · have h' := h
    unfold gwOk at h'
    obtain ⟨i, rfl⟩ := Int.eq_ofNat_of_zero_le h'.2.2.1
    obtain ⟨m, rfl⟩ := Int.eq_ofNat_of_zero_le (show 0 ≤ m by omega)
    have := implGetWide_yes s i m w hs (by omega) (by omega) (by omega)
    simpa [gwN, gwB, h] using this
  · have := implGetWide_no s i m w hs hm (by unfold gwOk at h; exact h)
    simpa [gwN, gwB, h] using this

end Go.Proofs.Ytiffgiabnjdeoaa
