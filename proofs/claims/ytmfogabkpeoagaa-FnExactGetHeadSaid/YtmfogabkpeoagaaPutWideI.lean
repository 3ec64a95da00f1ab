/-
  PutWide of the program: the bytes of a number, the highest first.
-/
import Derived.Test.YtmfogabkpeoagaaPutWide
import Derived.Deep.LoopGhost
namespace Go.Proofs.Ytmfogabkpeoagaa
open Go.RowKit
set_option linter.unusedVariables false

set_option maxHeartbeats 1000000 in
theorem implPutWide_yes (n : Int) (m : Nat) (w : World) (h0 : -9223372036854775808 ≤ n ∧ n ≤ 9223372036854775807) (h1 : 1 ≤ m) (hm : m ≤ 8) :
    Calls Try.prog 24 #[.int .i64 n, .int .i64 m] w fun e w' => e = .returned (.string (str (wide n m))) ∧ Below w.heap.size w w' := by
  have hd : decide ((m : Int) ≤ 8) = true := by simp; omega
  go_enter Try.func24, Try.ntmps24
  go_wp2
  go_loopg [5, 6] m (fun g v i wr => ∃ t : Nat, t + g = m ∧ i = .int .i64 ((m : Int) - 1 - t) ∧ wr.ownsRow w.heap.size 5 1 v t (((wide n m).take t).map bv) ∧ Below w.heap.size w wr)
  case atStart => exact ⟨0, Nat.zero_add _, by simp, own_empty w _ _, (Below.refl _ _).alloc (Nat.le_refl _) _⟩
  case round =>
    obtain ⟨t, ht0, rfl, hown, hb⟩ := hrel
    have HG := Lib.hid ht0
    have ht : t ≤ m := by omega
    have htg : t + gk ≤ m := by omega
    clear ht0
    by_cases hlt : t < m
    · obtain ⟨k, hk⟩ : ∃ k : Nat, k + t + 1 = m := ⟨m - 1 - t, by omega⟩
      have e1 : (m : Int) - 1 - t = k := by omega
      rw [e1]
      have HK := Lib.hid hk
      have hk7 : k ≤ 7 := by omega
      clear e1 hk
      go_wp2_with (at_builtin; (refine wpList_app rfl (.tmp 17) (.tmp 23) 37 rfl w.heap.size 5 Try.underlying37 infoU8 rfl (by decide) rfl (hown.alloc _) (hb.alloc hb.size _) (Nat.le_trans hb.size (by simp)) _ 1 1 _ rfl rfl (cells_new _ _ _) (one_u8 _) (by unfold maxLen; omega) (by omega) ?_; intro v' w' hown' hb' hB'))
      rw [byte_impl, show k = m - 1 - t by have := HK.out; omega] at hown'
      have HT := Lib.hid (wide_take n m t (by omega))
      go_wp2
      go_roundg (gk - 1)
      case rel => exact ⟨t + 1, by have := HG.out; omega, by have := HK.out; go_num, by rw [HT.out, List.map_append]; exact hown', hb'⟩
      case measure => have := HG.out; omega
    · obtain rfl : t = m := by have := HG.out; omega
      have hcv := run_string_own (P := Try.prog) 37 9 5 Try.underlying37 Try.underlying5 Try.underlying9 hown
      clear hown
      go_wp2
      go_ret
      exact ⟨ret_eq (congrArg (fun l => Value.string (str l)) (List.take_of_length_le (by rw [wide_len]; omega))), hb⟩

set_option maxHeartbeats 1000000 in
theorem implPutWide (n m : Int) (w : World) (h0 : -9223372036854775808 ≤ n ∧ n ≤ 9223372036854775807) :
    Calls Try.prog 24 #[.int .i64 n, .int .i64 m] w fun e w' => e = .returned (.string (str (pw n m))) ∧ Below w.heap.size w w' := by
  by_cases h : 1 ≤ m ∧ m ≤ 8
  · obtain ⟨k, rfl⟩ := Int.eq_ofNat_of_zero_le (show 0 ≤ m by omega)
    have hp : pw n k = wide n k := by unfold pw; rw [if_pos h, Int.toNat_natCast]
    rw [hp]
    exact implPutWide_yes n k w h0 (by omega) (by omega)
  · have hp : pw n m = [] := by unfold pw; rw [if_neg h]
    rw [hp]
    clear hp
    rcases (show decide (1 ≤ m) = false ∨ (decide (1 ≤ m) = true ∧ decide (m ≤ 8) = false) by simp; omega) with hc | hc
    all_goals
      clear h
      go_enter Try.func24, Try.ntmps24
      go_wp2_with go_in
      go_ret
      exact ⟨rfl, Below.refl _ _⟩
end Go.Proofs.Ytmfogabkpeoagaa
