/-
  PutHex of the reference returns the two digits of each byte, for a text of at most 1048576 bytes.
-/
import Derived.Test.YtmfogabkpeoagaaDoorKit
import Derived.Deep.RegionHeld3
namespace Go.Proofs.YtmfogabkpeoagaaDoor
open Go.ChangeShapes Go.WideShapes Go.ChangeAt Go.RowKit
set_option linter.unusedVariables false

set_option maxHeartbeats 1000000 in
theorem specPutHex (s : ByteArray) (w : World) (hs : s.size ≤ 1048576) :
    Calls Tryd.prog 49 #[.string s] w fun e w' => e = .returned (.string (str (hexOf s.data.toList))) ∧ Below w.heap.size w w' := by
  go_enter Tryd.func49, Tryd.ntmps49
  go_wp2
  go_loopw [3, 4] (fun v i wr => ∃ k : Nat, k ≤ s.size ∧ i = .int .i64 k ∧ wr.ownsRow w.heap.size 5 1 v (2 * k) ((hexOf (s.data.toList.take k)).map bv) ∧ Below w.heap.size w wr)
    (fun _ i _ => s.size - (intOf i).toNat)
  case atStart => exact ⟨0, Nat.zero_le _, rfl, own_empty w _ _, (Below.refl _ _).alloc (Nat.le_refl _) _⟩
  case round =>
    obtain ⟨k, hk, rfl, hown, hb⟩ := hrel
    by_cases hlt : k < s.size
    · have hu : s[k].toNat < 256 := UInt8.toNat_lt _
      have e1 := quo16 s[k].toNat hu
      have e2 := rem16 s[k].toNat
      go_wp2
      go_region_held3 (fun _ => True) (exact trivial) (first | (refine step_app rfl (.tmp 12) (.tmp 23) 37 rfl w.heap.size 5 Tryd.underlying37 infoU8 rfl (by decide) rfl (hown.alloc _) (hb.alloc hb.size _).drew (Nat.le_trans hb.size (by simp)) _ 2 2 _ rfl rfl (cells_newD _ _ _) (ones_u8 _ _) (by unfold maxLen; omega) (by omega) ?_; intro v' w' hown' hb' hB'))
      all_goals
        rw [hex_cells, ← List.map_append, ← hexOf_snoc, ← take_snoc s k hlt] at hown'
        go_wp2
        go_roundw
        case rel => exact ⟨k + 1, by omega, by go_num, hown', hb'⟩
        case measure => simp [intOf]; omega
    · obtain rfl : k = s.size := by omega
      have hcv := run_string_own (P := Tryd.prog) 37 9 5 Tryd.underlying37 Tryd.underlying5 Tryd.underlying9 hown
      clear hown
      go_wp2
      go_ret
      exact ⟨ret_eq (congrArg (fun l => Value.string (str (hexOf l))) (List.take_of_length_le (by simp))), hb⟩
end Go.Proofs.YtmfogabkpeoagaaDoor
