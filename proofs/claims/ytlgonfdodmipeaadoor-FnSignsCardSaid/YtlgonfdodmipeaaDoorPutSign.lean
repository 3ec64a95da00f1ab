/-
  PutSign of the program: the bytes of a code point.
-/
import Derived.Test.YtlgonfdodmipeaaDoorEnc
namespace Go.Proofs.YtlgonfdodmipeaaDoor
open Go.RowKit
set_option linter.unusedVariables false

theorem implPutSign (n : Int) (w : World) (h0 : -9223372036854775808 ≤ n ∧ n ≤ 9223372036854775807) :
    Calls Tryd.prog 11 #[.int .i64 n] w fun e w' => e = .returned (.string (signB n)) ∧ w = w' := by
  by_cases h : (0 ≤ n ∧ n < 55296) ∨ (57343 < n ∧ n ≤ 1114111)
  · have hs : signB n = Utf8.encode n := by unfold signB isSg; rw [if_pos (by simp; omega)]
    rw [hs]
    clear hs
    rcases h with h | h
    · have hd : decide (n ≤ 1114111) = true := by simp; omega
      go_enter Tryd.func11, Tryd.ntmps11
      go_wp2_with go_in
      go_ret
      exact ⟨rfl, rfl⟩
    · have hd : decide (n ≤ 1114111) = true := by simp; omega
      go_enter Tryd.func11, Tryd.ntmps11
      go_wp2_with go_in
      go_ret
      exact ⟨rfl, rfl⟩
  · have hs : signB n = ⟨#[]⟩ := by unfold signB isSg; rw [if_neg (by simp; omega)]
    rw [hs]
    clear hs
    rcases (show n < 0 ∨ 1114111 < n ∨ (55296 ≤ n ∧ n ≤ 57343) by omega) with hc | hc | hc
    · clear h
      go_enter Tryd.func11, Tryd.ntmps11
      go_wp2_with go_in
      go_ret
      exact ⟨rfl, rfl⟩
    · clear h
      have hd : decide (n ≤ 1114111) = false := by simp; omega
      go_enter Tryd.func11, Tryd.ntmps11
      go_wp2_with go_in
      go_ret
      exact ⟨rfl, rfl⟩
    · clear h
      have hd : decide (n ≤ 1114111) = true := by simp; omega
      have hd2 : decide (n ≤ 57343) = true := by simp; omega
      go_enter Tryd.func11, Tryd.ntmps11
      go_wp2_with go_in
      go_ret
      exact ⟨rfl, rfl⟩
end Go.Proofs.YtlgonfdodmipeaaDoor
