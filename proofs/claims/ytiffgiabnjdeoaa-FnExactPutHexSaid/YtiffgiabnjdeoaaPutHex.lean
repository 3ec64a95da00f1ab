/-
  PutHex of the reference and of the program: each returns the two digits of each byte, for a text of at most 1048576 bytes.
-/
import Derived.Test.YtiffgiabnjdeoaaKit
import Derived.Deep.RegionHeld3
namespace Go.Proofs.Ytiffgiabnjdeoaa
open Go.ChangeShapes Go.WideShapes Go.ChangeAt Go.RowKit
set_option linter.unusedVariables false

set_option maxHeartbeats 1000000 in
theorem implPutHex (s : ByteArray) (w : World) (hs : s.size ≤ 1048576) :
    Calls Try.prog 14 #[.string s] w fun e w' => e = .returned (.string (str (hexOf s.data.toList))) ∧ Below w.heap.size w w' := by
  obtain ⟨i0, hi, hz0, hz1, hz2⟩ := info_parts infoU8
  go_enter Try.func14, Try.ntmps14
  go_wp2_with (at_make; refine wpList_make_own _ rfl _ _ 48 rfl w.heap.size 5 i0 (.int .u8 0) 1 Try.underlying48 hi hz0 hz1 _ _ _ (2 * s.size) rfl rfl (by omega) ?b1 ?b2 ?b3 ?_)
  case b1 => rw [hz2]; omega
  case b2 => unfold maxLen; omega
  case b3 => omega
  intro w1 hown1 hg1
  go_wp2
  go_loopw [3, 11] (fun v i wr => ∃ k : Nat, k ≤ s.size ∧ i = .int .i64 k ∧ wr.ownsRow w.heap.size 5 1 v (2 * k) ((hexOf (s.data.toList.take k)).map bv) ∧ Below w.heap.size w wr)
    (fun _ i _ => s.size - (intOf i).toNat)
  case atStart => exact ⟨0, Nat.zero_le _, rfl, hown1, (Below.refl _ _).grown hg1 (Nat.le_refl _) (fun k h => by cases h)⟩
  case round =>
    obtain ⟨k, hk, rfl, hown, hb⟩ := hrel
    by_cases hlt : k < s.size
    · have hu : s[k].toNat < 256 := UInt8.toNat_lt _
      have e15 := and15 s[k].toNat hu
      go_wp2
      go_region_held3 (fun _ => True) (exact trivial) (first | (refine step_app rfl (.tmp 14) (.tmp 25) 48 rfl w.heap.size 5 Try.underlying48 infoU8 rfl (by decide) rfl (hown.alloc _) (hb.alloc hb.size _).drew (Nat.le_trans hb.size (by simp)) _ 2 2 _ rfl rfl (cells_newD _ _ _) (ones_u8 _ _) (by unfold maxLen; omega) (by omega) ?_; intro v' w' hown' hb' hB'))
      all_goals
        rw [hex_cells, ← List.map_append, ← hexOf_snoc, ← take_snoc s k hlt] at hown'
        go_wp2
        go_roundw
        case rel => exact ⟨k + 1, by omega, by go_num, hown', hb'⟩
        case measure => simp [intOf]; omega
    · obtain rfl : k = s.size := by omega
      have hcv := run_string_own (P := Try.prog) 48 9 5 Try.underlying48 Try.underlying5 Try.underlying9 hown
      clear hown
      go_wp2
      go_ret
      exact ⟨ret_eq (congrArg (fun l => Value.string (str (hexOf l))) (List.take_of_length_le (by simp))), hb⟩

set_option maxHeartbeats 1000000 in
theorem specPutHex (s : ByteArray) (w : World) (hs : s.size ≤ 1048576) :
    Calls Try.prog 13 #[.string s] w fun e w' => e = .returned (.string (str (hexOf s.data.toList))) ∧ Below w.heap.size w w' := by
  go_enter Try.func13, Try.ntmps13
  go_wp2
  go_loopw [3, 4] (fun v i wr => ∃ k : Nat, k ≤ s.size ∧ i = .int .i64 k ∧ wr.ownsRow w.heap.size 5 1 v (2 * k) ((hexOf (s.data.toList.take k)).map bv) ∧ Below w.heap.size w wr)
    (fun _ i _ => s.size - (intOf i).toNat)
  case atStart => exact ⟨0, Nat.zero_le _, rfl, own_empty w _ _, (Below.refl _ _).alloc (Nat.le_refl _) _⟩
  case round =>
    obtain ⟨k, hk, rfl, hown, hb⟩ := hrel
    by_cases hlt : k < s.size
    · have hu : s[k].toNat < 256 := UInt8.toNat_lt _
      have e1 := quo16 s[k].toNat hu
      have e2 := rem16 s[k].toNat
      go_wp2
      go_region_held3 (fun _ => True) (exact trivial) (first | (refine step_app rfl (.tmp 12) (.tmp 23) 48 rfl w.heap.size 5 Try.underlying48 infoU8 rfl (by decide) rfl (hown.alloc _) (hb.alloc hb.size _).drew (Nat.le_trans hb.size (by simp)) _ 2 2 _ rfl rfl (cells_newD _ _ _) (ones_u8 _ _) (by unfold maxLen; omega) (by omega) ?_; intro v' w' hown' hb' hB'))
      all_goals
        rw [hex_cells, ← List.map_append, ← hexOf_snoc, ← take_snoc s k hlt] at hown'
        go_wp2
        go_roundw
        case rel => exact ⟨k + 1, by omega, by go_num, hown', hb'⟩
        case measure => simp [intOf]; omega
    · obtain rfl : k = s.size := by omega
      have hcv := run_string_own (P := Try.prog) 48 9 5 Try.underlying48 Try.underlying5 Try.underlying9 hown
      clear hown
      go_wp2
      go_ret
      exact ⟨ret_eq (congrArg (fun l => Value.string (str (hexOf l))) (List.take_of_length_le (by simp))), hb⟩
end Go.Proofs.Ytiffgiabnjdeoaa
