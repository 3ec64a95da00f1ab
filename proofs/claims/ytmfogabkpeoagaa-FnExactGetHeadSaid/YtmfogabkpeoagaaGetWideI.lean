/-
  GetWide of the program: numbers of up to eight bytes, the highest first.
-/
import Derived.Test.YtmfogabkpeoagaaWide
namespace Go.Proofs.Ytmfogabkpeoagaa
open Go.RowKit

set_option maxHeartbeats 1000000 in
theorem implGetWide_yes (s : ByteArray) (i m : Nat) (w : World) (hs : s.size ≤ 1048576) (h1 : 1 ≤ m) (h2 : m ≤ 8) (h3 : i + m ≤ s.size) :
    Calls Try.prog 23 #[.string s, .int .i64 i, .int .i64 m] w fun e w' => e = .returned (.tuple #[.int .i64 (i64of (big (piece s i m))), .bool true]) ∧ w = w' := by
  go_enter Try.func23, Try.ntmps23
  go_wp2
  go_loop [8, 26] (fun n k => ∃ j : Nat, j ≤ m ∧ k = .int .i64 j ∧ n = .int .i64 (i64of (big (piece s i j)))) (fun _ k => m - (intOf k).toNat)
  case atStart => exact ⟨0, by omega, rfl, by show _ = Value.int .i64 (i64of 0); rw [i64of_zero]⟩
  case round =>
    obtain ⟨j, hj, rfl, rfl⟩ := hrel
    by_cases hlt : j < m
    · have hs2 := piece_succ s i j (by omega)
      have hB := big_piece_lt s i j (by omega) (by omega)
      have hu : s[i + j].toNat < 256 := UInt8.toNat_lt _
      have HS : Hid (big (piece s i (j + 1)) = 256 * big (piece s i j) + s[i + j].toNat) := by rw [hs2]; exact big_snoc _ _
      clear hs2
      go_wp2
      go_round
      case rel => exact ⟨j + 1, by omega, by go_num, by rw [HS.out, i64_step _ _ hu]⟩
      case measure => simp [intOf]; omega
    · obtain rfl : j = m := by omega
      go_wp2
      go_ret2
      exact ⟨rfl, rfl⟩

set_option maxHeartbeats 1000000 in
theorem implGetWide_no (s : ByteArray) (i m : Int) (w : World) (hs : s.size ≤ 1048576) (hm : -9223372036854775808 ≤ m ∧ m ≤ 9223372036854775807) (h : ¬ (1 ≤ m ∧ m ≤ 8 ∧ 0 ≤ i ∧ i ≤ s.size - m)) :
    Calls Try.prog 23 #[.string s, .int .i64 i, .int .i64 m] w fun e w' => e = .returned (.tuple #[.int .i64 0, .bool false]) ∧ w = w' := by
  go_enter Try.func23, Try.ntmps23
  go_wp2
  all_goals go_ret2
  all_goals exact ⟨rfl, rfl⟩

set_option maxHeartbeats 1000000 in
theorem implGetWide (s : ByteArray) (i m : Int) (w : World) (hs : s.size ≤ 1048576) (hm : -9223372036854775808 ≤ m ∧ m ≤ 9223372036854775807) :
    Calls Try.prog 23 #[.string s, .int .i64 i, .int .i64 m] w fun e w' => e = .returned (.tuple #[.int .i64 (gwN s i m), .bool (gwB s i m)]) ∧ w = w' := by
  by_cases h : gwOk s i m
  · have h' := h
    unfold gwOk at h'
    obtain ⟨i, rfl⟩ := Int.eq_ofNat_of_zero_le h'.2.2.1
    obtain ⟨m, rfl⟩ := Int.eq_ofNat_of_zero_le (show 0 ≤ m by omega)
    have := implGetWide_yes s i m w hs (by omega) (by omega) (by omega)
    simpa [gwN, gwB, h] using this
  · have := implGetWide_no s i m w hs hm (by unfold gwOk at h; exact h)
    simpa [gwN, gwB, h] using this
end Go.Proofs.Ytmfogabkpeoagaa
