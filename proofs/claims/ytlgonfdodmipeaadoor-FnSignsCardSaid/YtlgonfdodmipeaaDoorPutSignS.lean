/-
  PutSign: the bytes of a code point.
-/
import Derived.Test.YtlgonfdodmipeaaDoorEnc
namespace Go.Proofs.YtlgonfdodmipeaaDoor
open Go.RowKit
set_option linter.unusedVariables false

set_option maxHeartbeats 1000000 in
set_option maxRecDepth 100000 in
theorem specPutSign_1 (n : Nat) (w : World) (h : n < 128) :
    Calls Tryd.prog 18 #[.int .i64 n] w fun e w' => e = .returned (.string (Utf8.encode n)) ∧ Below w.heap.size w w' := by
  have hd0 : decide ((n : Int) ≤ 1114111) = true := by simp; omega
  have hd1 : decide (55296 ≤ (n : Int)) = false := by simp; omega
  have hd2 : decide ((n : Int) < 128) = true := by simp; omega
  have hl := lit1 (P := Tryd.prog) 25 9 5 Tryd.underlying25 Tryd.underlying5 Tryd.underlying9
  go_enter Tryd.func18, Tryd.ntmps18
  go_wp2_with go_in
  go_ret
  exact ⟨ret_eq (congrArg Value.string (enc1 n (by omega))), (Below.refl _ _).alloc (Nat.le_refl _) _⟩

set_option maxHeartbeats 1000000 in
set_option maxRecDepth 100000 in
theorem specPutSign_2 (n : Nat) (w : World) (h : 128 ≤ n ∧ n < 2048) :
    Calls Tryd.prog 18 #[.int .i64 n] w fun e w' => e = .returned (.string (Utf8.encode n)) ∧ Below w.heap.size w w' := by
  have hd0 : decide ((n : Int) ≤ 1114111) = true := by simp; omega
  have hd1 : decide (55296 ≤ (n : Int)) = false := by simp; omega
  have hd2 : decide ((n : Int) < 128) = false := by simp; omega
  have hd3 : decide ((n : Int) < 2048) = true := by simp; omega
  have hd4 : bits .and .i64 (n : Int) 63 = ((n % 64 : Nat) : Int) := and63 n (by omega)
  have hl := lit2 (P := Tryd.prog) 25 9 5 Tryd.underlying25 Tryd.underlying5 Tryd.underlying9
  go_enter Tryd.func18, Tryd.ntmps18
  go_wp2_with go_in
  go_ret
  exact ⟨ret_eq (congrArg Value.string (enc2 n (by omega))), (Below.refl _ _).alloc (Nat.le_refl _) _⟩

set_option maxHeartbeats 1000000 in
set_option maxRecDepth 100000 in
theorem specPutSign_3 (n : Nat) (w : World) (h : 2048 ≤ n ∧ n < 55296) :
    Calls Tryd.prog 18 #[.int .i64 n] w fun e w' => e = .returned (.string (Utf8.encode n)) ∧ Below w.heap.size w w' := by
  have hd0 : decide ((n : Int) ≤ 1114111) = true := by simp; omega
  have hd1 : decide (55296 ≤ (n : Int)) = false := by simp; omega
  have hd2 : decide ((n : Int) < 128) = false := by simp; omega
  have hd3 : decide ((n : Int) < 2048) = false := by simp; omega
  have hd4 : decide ((n : Int) < 65536) = true := by simp; omega
  have hd5 : bits .and .i64 (n : Int) 63 = ((n % 64 : Nat) : Int) := and63 n (by omega)
  have hd6 : bits .and .i64 ((n : Int) / 64) 63 = ((n / 64 % 64 : Nat) : Int) := and63d n 64 (by omega)
  have hl := lit3 (P := Tryd.prog) 25 9 5 Tryd.underlying25 Tryd.underlying5 Tryd.underlying9
  go_enter Tryd.func18, Tryd.ntmps18
  go_wp2_with go_in
  go_ret
  exact ⟨ret_eq (congrArg Value.string (enc3 n (by omega))), (Below.refl _ _).alloc (Nat.le_refl _) _⟩

set_option maxHeartbeats 1000000 in
set_option maxRecDepth 100000 in
theorem specPutSign_4 (n : Nat) (w : World) (h : 57343 < n ∧ n < 65536) :
    Calls Tryd.prog 18 #[.int .i64 n] w fun e w' => e = .returned (.string (Utf8.encode n)) ∧ Below w.heap.size w w' := by
  have hd0 : decide ((n : Int) ≤ 1114111) = true := by simp; omega
  have hd1 : decide (55296 ≤ (n : Int)) = true := by simp; omega
  have hd2 : decide ((n : Int) ≤ 57343) = false := by simp; omega
  have hd3 : decide ((n : Int) < 128) = false := by simp; omega
  have hd4 : decide ((n : Int) < 2048) = false := by simp; omega
  have hd5 : decide ((n : Int) < 65536) = true := by simp; omega
  have hd6 : bits .and .i64 (n : Int) 63 = ((n % 64 : Nat) : Int) := and63 n (by omega)
  have hd7 : bits .and .i64 ((n : Int) / 64) 63 = ((n / 64 % 64 : Nat) : Int) := and63d n 64 (by omega)
  have hl := lit3 (P := Tryd.prog) 25 9 5 Tryd.underlying25 Tryd.underlying5 Tryd.underlying9
  go_enter Tryd.func18, Tryd.ntmps18
  go_wp2_with go_in
  go_ret
  exact ⟨ret_eq (congrArg Value.string (enc3 n (by omega))), (Below.refl _ _).alloc (Nat.le_refl _) _⟩

set_option maxHeartbeats 1000000 in
set_option maxRecDepth 100000 in
theorem specPutSign_5 (n : Nat) (w : World) (h : 65536 ≤ n ∧ n < 1114112) :
    Calls Tryd.prog 18 #[.int .i64 n] w fun e w' => e = .returned (.string (Utf8.encode n)) ∧ Below w.heap.size w w' := by
  have hd0 : decide ((n : Int) ≤ 1114111) = true := by simp; omega
  have hd1 : decide (55296 ≤ (n : Int)) = true := by simp; omega
  have hd2 : decide ((n : Int) ≤ 57343) = false := by simp; omega
  have hd3 : decide ((n : Int) < 128) = false := by simp; omega
  have hd4 : decide ((n : Int) < 2048) = false := by simp; omega
  have hd5 : decide ((n : Int) < 65536) = false := by simp; omega
  have hd6 : bits .and .i64 (n : Int) 63 = ((n % 64 : Nat) : Int) := and63 n (by omega)
  have hd7 : bits .and .i64 ((n : Int) / 64) 63 = ((n / 64 % 64 : Nat) : Int) := and63d n 64 (by omega)
  have hd8 : bits .and .i64 ((n : Int) / 4096) 63 = ((n / 4096 % 64 : Nat) : Int) := and63d n 4096 (by omega)
  have hl := lit4 (P := Tryd.prog) 25 9 5 Tryd.underlying25 Tryd.underlying5 Tryd.underlying9
  go_enter Tryd.func18, Tryd.ntmps18
  go_wp2_with go_in
  go_ret
  exact ⟨ret_eq (congrArg Value.string (enc4 n (by omega))), (Below.refl _ _).alloc (Nat.le_refl _) _⟩

theorem specPutSign (n : Int) (w : World) (h0 : -9223372036854775808 ≤ n ∧ n ≤ 9223372036854775807) :
    Calls Tryd.prog 18 #[.int .i64 n] w fun e w' => e = .returned (.string (signB n)) ∧ Below w.heap.size w w' := by
  by_cases h : (0 ≤ n ∧ n < 55296) ∨ (57343 < n ∧ n ≤ 1114111)
  · have hs : signB n = Utf8.encode n := by unfold signB isSg; rw [if_pos (by simp; omega)]
    rw [hs]
    obtain ⟨n, rfl⟩ := Int.eq_ofNat_of_zero_le (show 0 ≤ n by omega)
    rcases (show n < 128 ∨ (128 ≤ n ∧ n < 2048) ∨ (2048 ≤ n ∧ n < 55296) ∨ (57343 < n ∧ n < 65536) ∨ (65536 ≤ n ∧ n < 1114112) by omega) with hc | hc | hc | hc | hc
    · exact specPutSign_1 n w hc
    · exact specPutSign_2 n w hc
    · exact specPutSign_3 n w hc
    · exact specPutSign_4 n w hc
    · exact specPutSign_5 n w hc
  · have hs : signB n = ⟨#[]⟩ := by unfold signB isSg; rw [if_neg (by simp; omega)]
    rw [hs]
    clear hs
    rcases (show n < 0 ∨ 1114111 < n ∨ (55296 ≤ n ∧ n ≤ 57343) by omega) with hc | hc | hc
    · clear h
      go_enter Tryd.func18, Tryd.ntmps18
      go_wp2_with go_in
      go_ret
      exact ⟨rfl, Below.refl _ _⟩
    · clear h
      have hd : decide (n ≤ 1114111) = false := by simp; omega
      go_enter Tryd.func18, Tryd.ntmps18
      go_wp2_with go_in
      go_ret
      exact ⟨rfl, Below.refl _ _⟩
    · clear h
      have hd : decide (n ≤ 1114111) = true := by simp; omega
      have hd2 : decide (n ≤ 57343) = true := by simp; omega
      go_enter Tryd.func18, Tryd.ntmps18
      go_wp2_with go_in
      go_ret
      exact ⟨rfl, Below.refl _ _⟩
end Go.Proofs.YtlgonfdodmipeaaDoor
