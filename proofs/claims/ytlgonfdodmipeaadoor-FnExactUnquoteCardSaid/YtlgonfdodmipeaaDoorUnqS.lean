/-
  Unquote of the reference: four digits, what a backslash begins, the text behind a quote.
-/
import Derived.Test.YtlgonfdodmipeaaDoorUnqP
import Derived.Test.YtlgonfdodmipeaaDoorShort
import Derived.Test.YtlgonfdodmipeaaDoorSignsS
import Derived.BigQuiet
import Derived.Deep.QuietTactic
import Derived.Deep.RegionHeld3
namespace Go.Proofs.YtlgonfdodmipeaaDoor
open Go.RowKit
set_option linter.unusedVariables false
set_option linter.unusedSimpArgs false
set_option maxRecDepth 100000

/-- The value of a small hexadecimal digit, or -1. -/
def dgV (c : Nat) : Int := if 48 ≤ c ∧ c ≤ 57 then (c : Int) - 48 else if 97 ≤ c ∧ c ≤ 102 then (c : Int) - 87 else -1
theorem dgV_up {c : Nat} (h : 65 ≤ c ∧ c ≤ 70) : dgV (c + 32) = hxV c := by
  unfold dgV hxV
  rw [if_neg (by omega), if_pos (by omega), if_neg (by omega), if_neg (by omega), if_pos (by omega)]
  omega
theorem dgV_own {c : Nat} (h : ¬ (65 ≤ c ∧ c ≤ 70)) : dgV c = hxV c := by
  unfold dgV hxV
  rw [if_neg h]
theorem specDig (c : Nat) (w : World) (hu : c < 256) : Calls Tryd.prog 65 #[.int .u8 c] w fun e w' => e = .returned (.int .i64 (dgV c)) ∧ w' = w := by
  unfold dgV
  split
  · have hd : decide ((c : Int) ≤ 57) = true := by simp; omega
    go_enter Tryd.func65, Tryd.ntmps65
    go_wp2_with go_in
    go_ret
    exact ⟨rfl, rfl⟩
  · split
    · have hd : decide ((c : Int) ≤ 57) = false := by simp; omega
      have hd2 : decide ((c : Int) ≤ 102) = true := by simp; omega
      go_enter Tryd.func65, Tryd.ntmps65
      go_wp2_with go_in
      go_ret
      exact ⟨rfl, rfl⟩
    · rcases (show decide (48 ≤ (c : Int)) = false ∧ decide (97 ≤ (c : Int)) = false ∨ decide (48 ≤ (c : Int)) = true ∧ decide ((c : Int) ≤ 57) = false ∧ decide (97 ≤ (c : Int)) = false ∨ decide (48 ≤ (c : Int)) = true ∧ decide ((c : Int) ≤ 57) = false ∧ decide (97 ≤ (c : Int)) = true ∧ decide ((c : Int) ≤ 102) = false by simp only [decide_eq_true_iff, decide_eq_false_iff_not]; omega) with ⟨h1, h2⟩ | ⟨h1, h2, h3⟩ | ⟨h1, h2, h3, h4⟩
      all_goals
        go_enter Tryd.func65, Tryd.ntmps65
        go_wp2_with go_in
        go_ret
        exact ⟨rfl, rfl⟩

set_option maxHeartbeats 2000000 in
theorem specUnit (s : ByteArray) (i : Nat) (w : World) (hs : s.size ≤ 1048576) (hi : i ≤ 2000000) :
    Calls Tryd.prog 54 #[.string s, .int .i64 i] w fun e w' => e = .returned (.int .i64 (unitZ s i)) ∧ w' = w := by
  by_cases hr : i + 4 ≤ s.size
  · go_enter Tryd.func54, Tryd.ntmps54
    go_wp2_with fail
    go_loop [5, 6] (fun n k => ∃ j : Nat, j ≤ 4 ∧ k = .int .i64 ((i + j : Nat) : Int) ∧ n = .int .i64 (accH s i j) ∧ hexTo s i j) (fun _ k => i + 4 - (intOf k).toNat)
    case atStart => exact ⟨0, by omega, rfl, rfl, fun k hk => by omega⟩
    case round =>
      obtain ⟨j, hj, rfl, rfl, hH⟩ := hrel
      by_cases hlt : j < 4
      · have hu : s[i + j].toNat < 256 := UInt8.toNat_lt _
        have hR := accH_range s i j (by omega) hH
        have hR2 : accH s i j < 65536 := by
          have h16 : (16 : Int) ^ j ≤ 16 ^ 3 := by
            have : j = 0 ∨ j = 1 ∨ j = 2 ∨ j = 3 := by omega
            rcases this with rfl | rfl | rfl | rfl <;> decide
          omega
        have hstep : accH s i (j + 1) = 16 * accH s i j + hxV s[i + j].toNat := by rw [get_get! s (i + j) (by omega)]; rfl
        have hgood : ¬ hxV s[i + j].toNat < 0 → hexTo s i (j + 1) := fun h k hk => by
          rcases Nat.lt_or_ge k j with h2 | h2
          · exact hH k h2
          · obtain rfl : k = j := by omega
            rw [← get_get! s (i + k) (by omega)]
            omega
        have hbad : hxV s[i + j].toNat < 0 → unitZ s i = -1 := fun h => unitZ_bad hlt (by rw [← get_get! s (i + j) (by omega)]; exact h)
        have HS := Lib.hid hstep
        have HG := Lib.hid hgood
        have HB := Lib.hid hbad
        have hR1 := hR.1
        generalize accH s i j = A at *
        have HX := Lib.hid hxV_range
        clear hstep hgood hbad hR hH
        obtain ⟨c, hc⟩ : ∃ c, s[i + j].toNat = c := ⟨_, rfl⟩
        rw [hc] at hu HS HG HB
        by_cases hup : 65 ≤ c ∧ c ≤ 70
        · have HD := dgV_up hup
          have hpos : ¬ hxV c < 0 := by unfold hxV; rw [if_neg (by omega), if_neg (by omega), if_pos (by omega)]; omega
          have hd1 : decide (65 ≤ (c : Int)) = true := by simp; omega
          have hd2 : decide ((c : Int) ≤ 70) = true := by simp; omega
          have hcd := fun w => specDig (c + 32) w (by omega)
          rw [HD] at hcd
          have HCD := Lib.hid hcd
          have hx := HX.out c
          generalize hxV c = x at *
          clear HD hcd
          go_wp2_with (first | (go_at_call 45; go_in) | fail)
          refine (HCD.out _).mono ?_
          rintro e w1 ⟨rfl, rfl⟩
          go_wp2_with fail
          go_round
          case rel => exact ⟨j + 1, by omega, by go_num, by rw [HS.out], HG.out (by omega)⟩
          case measure => simp [intOf]; omega
        · have HD := dgV_own hup
          have hcd := fun w => specDig c w hu
          rw [HD] at hcd
          have HCD := Lib.hid hcd
          have hx := HX.out c
          generalize hxV c = x at *
          clear HD hcd
          have hin : (decide (65 ≤ (c : Int)) = false) ∨ (decide (65 ≤ (c : Int)) = true ∧ decide ((c : Int) ≤ 70) = false) := by simp; omega
          rcases hin with hd1 | ⟨hd1, hd2⟩
          all_goals
            go_wp2_with (first | (go_at_call 45; go_in) | fail)
            refine (HCD.out _).mono ?_
            rintro e w1 ⟨rfl, rfl⟩
            by_cases hpos : x < 0
            · go_wp2_with fail
              go_ret
              exact ⟨ret_eq (congrArg (Value.int .i64) (HB.out (by omega)).symm), rfl⟩
            · go_wp2_with fail
              go_round
              case rel => exact ⟨j + 1, by omega, by go_num, by rw [HS.out], HG.out (by omega)⟩
              case measure => simp [intOf]; omega
      · obtain rfl : j = 4 := by omega
        have HU : Hid (unitZ s i = accH s i 4) := Lib.hid (by unfold unitZ; rw [if_pos ⟨hr, hH⟩])
        clear hH
        go_wp2_with fail
        go_ret
        exact ⟨ret_eq (congrArg (Value.int .i64) HU.out.symm), rfl⟩
  · have hz : unitZ s i = -1 := by unfold unitZ; rw [if_neg (fun h => hr h.1)]
    rw [hz]
    clear hz
    go_enter Tryd.func54, Tryd.ntmps54
    go_wp2_with fail
    go_ret
    exact ⟨rfl, rfl⟩

/-- What a backslash begins, and the place behind it. -/
def escB (s : ByteArray) (i : Nat) : ByteArray := match escAt s i with | none => ⟨#[]⟩ | some (t, _) => t
def escE (s : ByteArray) (i : Nat) : Int := match escAt s i with | none => -1 | some (_, n) => (n : Int)
theorem esc_none {s : ByteArray} {i : Nat} (h : escAt s i = none) : escB s i = ⟨#[]⟩ ∧ escE s i = -1 := by unfold escB escE; rw [h]; exact ⟨rfl, rfl⟩
theorem esc_some {s t : ByteArray} {i n : Nat} (h : escAt s i = some (t, n)) : escB s i = t ∧ escE s i = (n : Int) := by unfold escB escE; rw [h]; exact ⟨rfl, rfl⟩
theorem esc_end {s : ByteArray} {i : Nat} (h : s.size ≤ i + 1) : escAt s i = none := by unfold escAt; rw [if_pos h]
theorem esc_long {s : ByteArray} {i c : Nat} (h : i + 1 < s.size) (hc : (s.get! (i + 1)).toNat = c) (hl : longOf c ≠ 0) : escAt s i = some (str [UInt8.ofNat (longOf c)], i + 2) := by
  unfold escAt; rw [if_neg (by omega), hc, if_pos hl]
theorem esc_bad {s : ByteArray} {i c : Nat} (h : i + 1 < s.size) (hc : (s.get! (i + 1)).toNat = c) (hl : longOf c = 0) (hu : c ≠ 117) : escAt s i = none := by
  unfold escAt; rw [if_neg (by omega), hc, if_neg (by omega), if_neg hu]
theorem esc_two {s : ByteArray} {i : Nat} (h : i + 1 < s.size) (hc : (s.get! (i + 1)).toNat = 117) (h1 : 55296 ≤ unitZ s (i + 2) ∧ unitZ s (i + 2) ≤ 56319) (h2 : i + 8 ≤ s.size ∧ (s.get! (i + 6)).toNat = 92 ∧ (s.get! (i + 7)).toNat = 117) (h3 : 56320 ≤ unitZ s (i + 8) ∧ unitZ s (i + 8) ≤ 57343) :
    escAt s i = some (signB (pairZ (unitZ s (i + 2)) (unitZ s (i + 8))), i + 12) := by
  unfold escAt; rw [if_neg (by omega), hc, if_neg (by decide), if_pos rfl, if_pos h1, if_pos ⟨h2.1, h2.2.1, h2.2.2, h3⟩]
theorem esc_lone {s : ByteArray} {i : Nat} (h : i + 1 < s.size) (hc : (s.get! (i + 1)).toNat = 117) (h1 : 55296 ≤ unitZ s (i + 2) ∧ unitZ s (i + 2) ≤ 56319) (h2 : ¬ (i + 8 ≤ s.size ∧ (s.get! (i + 6)).toNat = 92 ∧ (s.get! (i + 7)).toNat = 117 ∧ 56320 ≤ unitZ s (i + 8) ∧ unitZ s (i + 8) ≤ 57343)) :
    escAt s i = none := by
  unfold escAt; rw [if_neg (by omega), hc, if_neg (by decide), if_pos rfl, if_pos h1, if_neg h2]
theorem esc_one {s : ByteArray} {i : Nat} (h : i + 1 < s.size) (hc : (s.get! (i + 1)).toNat = 117) (h1 : ¬ (55296 ≤ unitZ s (i + 2) ∧ unitZ s (i + 2) ≤ 56319)) (h2 : isSg (unitZ s (i + 2)) = true) :
    escAt s i = some (signB (unitZ s (i + 2)), i + 6) := by
  unfold escAt; rw [if_neg (by omega), hc, if_neg (by decide), if_pos rfl, if_neg h1, if_pos h2]
theorem esc_off {s : ByteArray} {i : Nat} (h : i + 1 < s.size) (hc : (s.get! (i + 1)).toNat = 117) (h1 : ¬ (55296 ≤ unitZ s (i + 2) ∧ unitZ s (i + 2) ≤ 56319)) (h2 : isSg (unitZ s (i + 2)) = false) :
    escAt s i = none := by
  unfold escAt; rw [if_neg (by omega), hc, if_neg (by decide), if_pos rfl, if_neg h1, if_neg (by rw [h2]; decide)]
theorem short_lt (b : Nat) : shortOf b < 256 := by
  unfold shortOf
  repeat' split
  all_goals omega
theorem short_long {b : Nat} (hb : shortOf b ≠ 0) : longOf (shortOf b) = b ∧ shortOf b ≠ 47 ∧ b < 128 := by
  revert hb
  unfold shortOf
  repeat' split
  all_goals (intro hb; first | exact absurd rfl hb | (subst_vars; decide))
theorem long_short {c : Nat} (h : longOf c ≠ 0) (h2 : c ≠ 47) : shortOf (longOf c) = c := by
  revert h
  unfold longOf
  repeat' split
  all_goals (intro hb; first | exact absurd rfl hb | (subst_vars; decide) | omega)
theorem signB_nil (n : Int) : (signB n).size = 0 ↔ isSg n = false := by
  cases h : isSg n with
  | false => unfold signB; rw [if_neg (by rw [h]; decide)]; exact ⟨fun _ => rfl, fun _ => rfl⟩
  | true =>
    refine ⟨fun h2 => ?_, fun h2 => by cases h2⟩
    exfalso
    obtain ⟨k, rfl⟩ := Int.eq_ofNat_of_zero_le (isSg_pos h)
    have h1 := congrArg List.length (sgN_eq k)
    rw [List.length_map] at h1
    have h3 : (signB (k : Int)).data.toList.length = (signB (k : Int)).size := (Lib.size_eq _).symm
    rw [h3, h2] at h1
    have h4 : sgN k = encN k := by
      unfold sgN
      rw [if_pos]
      unfold isSg at h
      simp at h
      omega
    rw [h4] at h1
    unfold encN at h1
    repeat' split at h1
    all_goals simp at h1

theorem tupV {a a' b b' : Value} (h1 : a = a') (h2 : b = b') : Ending.returned (.tuple #[a, b]) = Ending.returned (.tuple #[a', b']) := by rw [h1, h2]
theorem ext_two (s : ByteArray) (j : Nat) (h : j + 2 ≤ s.size) (a b : UInt8) : ((s.extract j (j + 2)).toList == [a, b]) = decide (s.get! j = a ∧ s.get! (j + 1) = b) := by
  have h1 : (s.extract j (j + 2)).data.toList = [s.get! j, s.get! (j + 1)] := by
    rw [extract_piece]
    have e1 := piece_succ s j 1 (by omega)
    have e0 := piece_succ s j 0 (by omega)
    rw [e1, e0, ← get_get! s j (by omega), ← get_get! s (j + 1) (by omega)]
    simp [piece]
  rw [Bool.eq_iff_iff, decide_eq_true_iff, beq_iff_eq, ByteArray.toList_eq, h1]
  simp

end Go.Proofs.YtlgonfdodmipeaaDoor
