/-
  l05Big of the reference: the bytes of a number, the highest first.
-/
import Derived.Test.YtmfogabkpeoagaaPutWide
import Derived.Deep.LoopGhost
namespace Go.Proofs.Ytmfogabkpeoagaa
open Go.RowKit
set_option linter.unusedVariables false

set_option maxHeartbeats 1000000 in
theorem specL05Big (n m : Nat) (w : World) (hn : n < 18446744073709551616) (hm : m ≤ 8) :
    Calls Try.prog 21 #[.int .u64 n, .int .i64 m] w fun e w' => e = .returned (.string (str (wide n m))) ∧ Below w.heap.size w w' := by
  go_enter Try.func21, Try.ntmps21
  go_wp2
  go_loopw [0, 5, 6] (fun x v i wr => ∃ k : Nat, k ≤ m ∧ i = .int .i64 k ∧ x = .int .u64 ((n / 256 ^ k : Nat) : Int) ∧ (∃ g c, v = .slice (some ⟨g, 0, none⟩) k c) ∧ wr.ownsRow w.heap.size 5 1 v k ((wide n k).map bv) ∧ Below w.heap.size w wr)
    (fun _ _ i _ => m - (intOf i).toNat)
  case atStart => exact ⟨0, Nat.zero_le _, rfl, by simp, ⟨_, _, rfl⟩, own_empty w _ _, (Below.refl _ _).alloc (Nat.le_refl _) _⟩
  case round =>
    obtain ⟨k, hk, rfl, rfl, ⟨g, c, rfl⟩, hown, hb⟩ := hrel
    by_cases hlt : k < m
    · go_wp2_with (at_builtin; refine wpList_app rfl (.tmp 16) (.tmp 17) 37 rfl w.heap.size 5 Try.underlying37 infoU8 rfl (by decide) rfl (own_lit1 wr _ _ hb.size) (hb.alloc hb.size _) (Nat.le_trans hb.size (by simp)) _ k c _ rfl (by simp [wide_len]) (own_cells (hown.alloc _)) (bv_one (wide n k)) (by unfold maxLen; omega) (by omega) ?_; intro v' w' hown' hb' hB'; obtain ⟨g', c', rfl⟩ := own_form hown' (by omega))
      rw [byte_spec] at hown'
      have HX : Hid (IntKind.u64.wrap (((n : Int) / 256 ^ k).tdiv 256) = ((n / 256 ^ (k + 1) : Nat) : Int)) := div_spec n k hn
      go_wp2
      go_roundw
      case rel => exact ⟨k + 1, by omega, by go_num, by rw [HX.out], ⟨g', c', by rw [Nat.add_comm k 1]⟩, by rw [wide_succ, Nat.add_comm k 1]; exact hown', hb'⟩
      case measure => simp [intOf]; omega
    · obtain rfl : k = m := by omega
      have hcv := run_string_own (P := Try.prog) 37 9 5 Try.underlying37 Try.underlying5 Try.underlying9 hown
      clear hown
      go_wp2
      go_ret
      exact ⟨rfl, hb⟩
end Go.Proofs.Ytmfogabkpeoagaa
