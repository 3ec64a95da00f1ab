/-
  DecText of the reference.
-/
import Derived.Test.YtbflkcldjjpioaaDoorDec
import Derived.Test.YtbflkcldjjpioaaDoorInt
namespace Go.Proofs.YtbflkcldjjpioaaDoor
open Go.RowKit
set_option linter.unusedVariables false

theorem str_cons (b : UInt8) (l : List UInt8) : str [b] ++ str l = str (b :: l) := by
  apply ByteArray.ext
  simp [str]
theorem strlen (l : List UInt8) : (str l).size = l.length := by simp [str, ByteArray.size]
theorem dd_cons (q u : Nat) (l : List UInt8) (h : q ≠ 0) (hl : dd q ++ l = dd u) : dd (q / 10) ++ (UInt8.ofNat (48 + q % 10) :: l) = dd u := by
  rw [← hl, ← dd_step q h]; simp

set_option maxHeartbeats 1000000 in
theorem specDecText_pos (u : Nat) (w : World) (h0 : 0 < u) (hu : u < 9223372036854775808) :
    Calls Tryd.prog 9 #[.int .i64 (u : Int)] w fun e w' => e = .returned (.string (str (Lib.itoa u))) ∧ w = w' := by
  have HR := Lib.hid (itoa_pos u)
  have HL := Lib.hid (dec_len u (by omega))
  have hz : ((u : Int) == 0) = false := by rw [beq_eq_false_iff_ne]; omega
  have hneg : decide ((u : Int) < 0) = false := decide_eq_false (by omega)
  go_enter Tryd.func9, Tryd.ntmps9
  go_wp2_with fail
  go_loop [3, 4] (fun o m => ∃ (q : Nat) (l : List UInt8), q ≤ u ∧ dd q ++ l = dd u ∧ m = .int .i64 (q : Int) ∧ o = .string (str l)) (fun _ m => (intOf m).toNat)
  case atStart => exact ⟨u, [], by omega, by simp, rfl, rfl⟩
  case round =>
    obtain ⟨q, l, hq, hl, rfl, rfl⟩ := hrel
    by_cases hq0 : q = 0
    · subst hq0
      have HE : Hid (str l = str (Lib.itoa u)) := Lib.hid (by rw [HR.out, ← dd_pos u (by omega), ← hl]; simp [dd])
      clear hl
      go_wp2_with fail
      go_ret
      exact ⟨congrArg (fun x => Ending.returned (.string x)) HE.out, rfl⟩
    · have HQ := Lib.hid (dd_cons q u l hq0 hl)
      have HD := Lib.hid (dig_at (q % 10) (by omega))
      have hlen : (str l).size ≤ 19 := by
        rw [strlen]
        have h1 := HL.out
        rw [← dd_pos u (by omega), ← hl, List.length_append] at h1
        omega
      have hqz : ((q : Int) == 0) = false := by rw [beq_eq_false_iff_ne]; omega
      clear hl
      go_wp2_with fail
      go_round
      case rel => refine ⟨q / 10, UInt8.ofNat (48 + q % 10) :: l, by omega, HQ.out, by go_num, ?_⟩; rw [HD.out, str_cons]
      case measure => simp [intOf]; omega

theorem neg_tdiv (q : Nat) : Int.tdiv (-(q : Int)) 10 = -((q / 10 : Nat) : Int) := by
  rw [Int.neg_tdiv]; rfl
theorem neg_tmod (q : Nat) : Int.tmod (-(q : Int)) 10 = -((q % 10 : Nat) : Int) := by
  rw [Int.neg_tmod]; rfl
set_option maxHeartbeats 1000000 in
theorem specDecText_neg (u : Nat) (w : World) (h0 : 0 < u) (hu : u ≤ 9223372036854775808) :
    Calls Tryd.prog 9 #[.int .i64 (-(u : Int))] w fun e w' => e = .returned (.string (str (Lib.itoa (-(u : Int))))) ∧ w = w' := by
  have HR := Lib.hid (itoa_neg u h0)
  have HL := Lib.hid (dec_len u (by omega))
  have hz : (-(u : Int) == 0) = false := by rw [beq_eq_false_iff_ne]; omega
  have hneg : decide (-(u : Int) < 0) = true := decide_eq_true (by omega)
  go_enter Tryd.func9, Tryd.ntmps9
  go_wp2_with fail
  go_loop [3, 4, 5] (fun o m _ => ∃ (q : Nat) (l : List UInt8), q ≤ u ∧ dd q ++ l = dd u ∧ m = .int .i64 (-(q : Int)) ∧ o = .string (str l)) (fun _ m _ => (intOf m).natAbs)
  case atStart => exact ⟨u, [], by omega, by simp, rfl, rfl⟩
  case round =>
    obtain ⟨q, l, hq, hl, rfl, rfl⟩ := hrel
    have hlen : (str l).size ≤ 19 := by
      rw [strlen]
      have h1 := HL.out
      rw [← dd_pos u (by omega), ← hl, List.length_append] at h1
      omega
    by_cases hq0 : q = 0
    · subst hq0
      have HE : Hid (str [45] ++ str l = str (Lib.itoa (-(u : Int)))) := Lib.hid (by rw [HR.out, str_cons, ← dd_pos u (by omega), ← hl]; simp [dd])
      clear hl
      go_wp2_with fail
      go_ret
      exact ⟨congrArg (fun x => Ending.returned (.string x)) HE.out, rfl⟩
    · have HQ := Lib.hid (dd_cons q u l hq0 hl)
      have HD := Lib.hid (dig_at (q % 10) (by omega))
      have hqz : (-(q : Int) == 0) = false := by rw [beq_eq_false_iff_ne]; omega
      have ht1 := neg_tdiv q
      have ht2 := neg_tmod q
      clear hl
      by_cases hd : q % 10 = 0
      · rw [hd] at ht2
        have hlt : decide (-((0 : Nat) : Int) < 0) = false := rfl
        go_wp2_with fail
        go_round
        case rel => refine ⟨q / 10, UInt8.ofNat (48 + q % 10) :: l, by omega, HQ.out, by go_num, ?_⟩; have hx := HD.out; rw [hd] at hx; rw [hx, hd, str_cons]
        case measure => simp only [intOf]; omega
      · have hlt : decide (-((q % 10 : Nat) : Int) < 0) = true := decide_eq_true (by omega)
        go_wp2_with fail
        go_round
        case rel => refine ⟨q / 10, UInt8.ofNat (48 + q % 10) :: l, by omega, HQ.out, by go_num, ?_⟩; rw [HD.out, str_cons]
        case measure => simp only [intOf]; omega

theorem specDecText (n : Int) (w : World) (h : -9223372036854775808 ≤ n ∧ n ≤ 9223372036854775807) :
    Calls Tryd.prog 9 #[.int .i64 n] w fun e w' => e = .returned (.string (str (Lib.itoa n))) ∧ w = w' := by
  by_cases h0 : n = 0
  · subst h0
    have HE : Hid ((⟨#[48]⟩ : ByteArray) = str (Lib.itoa 0)) := Lib.hid (by decide +kernel)
    go_enter Tryd.func9, Tryd.ntmps9
    go_wp2_with fail
    go_ret
    exact ⟨congrArg (fun x => Ending.returned (.string x)) HE.out, rfl⟩
  · by_cases hn : n < 0
    · obtain ⟨u, rfl⟩ : ∃ u : Nat, n = -(u : Int) := ⟨n.natAbs, by omega⟩
      exact specDecText_neg u w (by omega) (by omega)
    · obtain ⟨u, rfl⟩ := Int.eq_ofNat_of_zero_le (show 0 ≤ n by omega)
      exact specDecText_pos u w (by omega) (by omega)
end Go.Proofs.YtbflkcldjjpioaaDoor
