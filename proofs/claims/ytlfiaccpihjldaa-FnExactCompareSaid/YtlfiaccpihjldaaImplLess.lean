/-
  The library's order of two numbers and of two texts, and its first that is not 0.
-/
import Derived.Test.YtlfiaccpihjldaaLess
namespace Go.Proofs.Ytlfiaccpihjldaa
open Go.RowKit
set_option linter.unusedVariables false
set_option linter.unusedSimpArgs false

theorem isNaN_int (a : Int) (w : World) : Calls Try.prog 49 #[.int .i64 a] w fun e w' => e = .returned (.bool false) ∧ w' = w := by
  go_enter Try.func49, Try.ntmps49
  go_wp2_with fail
  go_ret
  exact ⟨ret_bool (by simp), rfl⟩
theorem cmpInt (a b : Int) (w : World) : Calls Try.prog 41 #[.int .i64 a, .int .i64 b] w fun e w' => e = .returned (.int .i64 (lessI a b)) ∧ w' = w := by
  by_cases h1 : a < b
  · have H := Lib.hid (lessI_lt h1)
    go_enter Try.func41, Try.ntmps41
    go_wp2_with fail
    refine (isNaN_int a w).mono ?_
    rintro e w1 ⟨rfl, rfl⟩
    go_wp2_with fail
    refine (isNaN_int b w1).mono ?_
    rintro e w1 ⟨rfl, rfl⟩
    go_wp2_with fail
    go_ret
    exact ⟨ret_num (by rw [H.out]), rfl⟩
  · by_cases h2 : b < a
    · have H := Lib.hid (lessI_gt h2)
      go_enter Try.func41, Try.ntmps41
      go_wp2_with fail
      refine (isNaN_int a w).mono ?_
      rintro e w1 ⟨rfl, rfl⟩
      go_wp2_with fail
      refine (isNaN_int b w1).mono ?_
      rintro e w1 ⟨rfl, rfl⟩
      go_wp2_with fail
      go_ret
      exact ⟨ret_num (by rw [H.out]), rfl⟩
    · obtain rfl : a = b := by omega
      have H := Lib.hid (lessI_eq a)
      go_enter Try.func41, Try.ntmps41
      go_wp2_with fail
      refine (isNaN_int a w).mono ?_
      rintro e w1 ⟨rfl, rfl⟩
      go_wp2_with fail
      refine (isNaN_int a w1).mono ?_
      rintro e w1 ⟨rfl, rfl⟩
      go_wp2_with fail
      go_ret
      exact ⟨ret_num (by rw [H.out]), rfl⟩

theorem isNaN_text (a : ByteArray) (w : World) : Calls Try.prog 50 #[.string a] w fun e w' => e = .returned (.bool false) ∧ w' = w := by
  go_enter Try.func50, Try.ntmps50
  go_wp2_with fail
  go_ret
  exact ⟨ret_bool (by simp), rfl⟩
theorem cmpText (a b : ByteArray) (w : World) : Calls Try.prog 42 #[.string a, .string b] w fun e w' => e = .returned (.int .i64 (lessT a b)) ∧ w' = w := by
  by_cases h1 : Op.bytesLess a.toList b.toList = true
  · have H := Lib.hid (show lessT a b = -1 by unfold lessT; rw [if_pos h1])
    go_enter Try.func42, Try.ntmps42
    go_wp2_with fail
    refine (isNaN_text a w).mono ?_
    rintro e w1 ⟨rfl, rfl⟩
    go_wp2_with fail
    refine (isNaN_text b w1).mono ?_
    rintro e w1 ⟨rfl, rfl⟩
    go_wp2_with fail
    go_ret
    exact ⟨ret_num (by rw [H.out]), rfl⟩
  · have h1' : Op.bytesLess a.toList b.toList = false := by simpa using h1
    by_cases h2 : (a.toList == b.toList) = true
    · have H := Lib.hid (show lessT a b = 0 by unfold lessT; rw [if_neg h1, if_pos h2])
      clear h1
      go_enter Try.func42, Try.ntmps42
      go_wp2_with fail
      refine (isNaN_text a w).mono ?_
      rintro e w1 ⟨rfl, rfl⟩
      go_wp2_with fail
      refine (isNaN_text b w1).mono ?_
      rintro e w1 ⟨rfl, rfl⟩
      go_wp2_with fail
      go_ret
      exact ⟨ret_num (by rw [H.out]), rfl⟩
    · have H := Lib.hid (show lessT a b = 1 by unfold lessT; rw [if_neg h1, if_neg h2])
      have h2' : (a.toList == b.toList) = false := by simpa using h2
      clear h1 h2
      go_enter Try.func42, Try.ntmps42
      go_wp2_with fail
      refine (isNaN_text a w).mono ?_
      rintro e w1 ⟨rfl, rfl⟩
      go_wp2_with fail
      refine (isNaN_text b w1).mono ?_
      rintro e w1 ⟨rfl, rfl⟩
      go_wp2_with fail
      go_ret
      exact ⟨ret_num (by rw [H.out]), rfl⟩

set_option maxHeartbeats 1000000 in
/-- cmp.Or: the first that is not 0 of n numbers that lie in block g. -/
theorem cmpOr (f : Nat → Int) (n c g : Nat) (w : World) (hn : n ≤ 1000) (hg : ∀ i, i < n → w.cell? ⟨g, i, none⟩ = some (.int .i64 (f i))) :
    Calls Try.prog 40 #[.slice (some ⟨g, 0, none⟩) n c] w fun e w' => e = .returned (.int .i64 (orN f n)) ∧ w' = w := by
  have HG := Lib.hid hg
  have HF := Lib.hid (orN_first f n)
  have HZ := Lib.hid (orN_zero f n)
  clear hg
  go_enter Try.func40, Try.ntmps40
  go_wp2_with fail
  go_loopw [8] (fun i wr => ∃ j : Nat, j ≤ n ∧ i = .int .i64 j ∧ wr = w ∧ ∀ k, k < j → f k = 0) (fun i _ => n - (intOf i).toNat)
  case atStart => exact ⟨0, Nat.zero_le _, rfl, rfl, fun k hk => by omega⟩
  case round =>
    obtain ⟨j, hj, rfl, rfl, hz⟩ := hrel
    have HH := Lib.hid hz
    clear hz
    by_cases hlt : j < n
    · have c0 := HG.out j hlt
      by_cases h0 : f j = 0
      · have h0' := h0
        have H0 := Lib.hid h0'
        clear h0'
        rw [h0] at c0
        clear h0
        go_wp2_with fail
        go_roundw
        case rel => exact ⟨j + 1, by omega, by go_num, by simp, fun k hk => by
          by_cases hk2 : k = j
          · subst hk2; exact H0.out
          · exact HH.out k (by omega)⟩
        case measure => simp [intOf]; omega
      · go_wp2_with fail
        go_ret
        exact ⟨ret_num (by rw [HF.out j HH.out hlt h0]), rfl⟩
    · obtain rfl : j = n := by omega
      go_wp2_with fail
      go_ret
      exact ⟨ret_num (by rw [HZ.out HH.out]), rfl⟩
end Go.Proofs.Ytlfiaccpihjldaa
