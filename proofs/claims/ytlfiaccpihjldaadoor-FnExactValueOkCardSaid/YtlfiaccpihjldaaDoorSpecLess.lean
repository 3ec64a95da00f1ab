/-
  The reference's order of two numbers and of two texts.
-/
import Derived.Test.YtlfiaccpihjldaaDoorLess
namespace Go.Proofs.YtlfiaccpihjldaaDoor
open Go.RowKit
set_option linter.unusedVariables false
set_option maxRecDepth 100000
set_option linter.unusedSimpArgs false

theorem specLess (a b : Int) (w : World) : Calls Tryd.prog 73 #[.int .i64 a, .int .i64 b] w fun e w' => e = .returned (.int .i64 (lessI a b)) ∧ w' = w := by
  by_cases h1 : a < b
  · have h := lessI_lt h1
    have H := Lib.hid h
    clear h
    go_enter Tryd.func73, Tryd.ntmps73
    go_wp2_with fail
    go_ret
    exact ⟨ret_num (by rw [H.out]), rfl⟩
  · by_cases h2 : b < a
    · have h := lessI_gt h2
      have H := Lib.hid h
      clear h
      go_enter Tryd.func73, Tryd.ntmps73
      go_wp2_with fail
      go_ret
      exact ⟨ret_num (by rw [H.out]), rfl⟩
    · obtain rfl : a = b := by omega
      have h := lessI_eq a
      have H := Lib.hid h
      clear h
      go_enter Tryd.func73, Tryd.ntmps73
      go_wp2_with fail
      go_ret
      exact ⟨ret_num (by rw [H.out]), rfl⟩

theorem specTexts (a b : ByteArray) (w : World) : Calls Tryd.prog 74 #[.string a, .string b] w fun e w' => e = .returned (.int .i64 (lessT a b)) ∧ w' = w := by
  by_cases h1 : Op.bytesLess a.toList b.toList = true
  · have h : lessT a b = -1 := by unfold lessT; rw [if_pos h1]
    have H := Lib.hid h
    clear h
    go_enter Tryd.func74, Tryd.ntmps74
    go_wp2_with fail
    go_ret
    exact ⟨ret_num (by rw [H.out]), rfl⟩
  · have h1' : Op.bytesLess a.toList b.toList = false := by simpa using h1
    by_cases h2 : (a.toList == b.toList) = true
    · have h : lessT a b = 0 := by unfold lessT; rw [if_neg h1, if_pos h2]
      have H := Lib.hid h
      clear h h1
      go_enter Tryd.func74, Tryd.ntmps74
      go_wp2_with fail
      go_ret
      exact ⟨ret_num (by rw [H.out]), rfl⟩
    · have h : lessT a b = 1 := by unfold lessT; rw [if_neg h1, if_neg h2]
      have h2' : (a.toList == b.toList) = false := by simpa using h2
      have H := Lib.hid h
      clear h h1 h2
      go_enter Tryd.func74, Tryd.ntmps74
      go_wp2_with fail
      go_ret
      exact ⟨ret_num (by rw [H.out]), rfl⟩
end Go.Proofs.YtlfiaccpihjldaaDoor
