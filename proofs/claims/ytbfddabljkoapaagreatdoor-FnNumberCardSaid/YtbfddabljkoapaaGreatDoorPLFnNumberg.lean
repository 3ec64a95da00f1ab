/-
  The texts on which the last one leans, part 7: RnI1, RnI2, ReadDecI, RnI3, RnI4, RnI5, RnS1, RnS2, RnS3.
-/
import Derived.Test.YtbfddabljkoapaaGreatDoorPLFnNumberf
import Derived.Deep.CutRange
import Derived.Test.YtbfddabljkoapaaGreatDoorShelfT
import Derived.Deep.CutBlock
/-
  The program's runs of digits, and where a number's parts end.
-/
namespace Go.Proofs.YtbfddabljkoapaaGreatDoor
open Go.RowKit
set_option linter.unusedVariables false
set_option linter.unusedSimpArgs false
set_option maxRecDepth 100000

theorem dig_casesI (c : Nat) : (48 ≤ c ∧ c ≤ 57) ∨ c < 48 ∨ 57 < c := by omega
theorem ge_idxI {s : ByteArray} {j : Nat} (h : j < s.size) : s.get! j = s[j] := (get_get! s j h).symm
set_option maxHeartbeats 2000000 in
theorem implRun (s : ByteArray) (i : Nat) (w : World) (hs : s.size ≤ 1048576) (hi : i ≤ s.size) :
    Calls Tryz.prog 116 #[.string s, .int .i64 i] w fun e w' => e = .returned (.int .i64 (runN s i)) ∧ w' = w := by
  go_enter Tryz.func116, Tryz.ntmps116
  go_wp2_with fail
  go_loop [1] (fun k => ∃ j : Nat, j ≤ s.size ∧ k = .int .i64 j ∧ runN s j = runN s i) (fun k => s.size - (intOf k).toNat)
  case atStart => exact ⟨i, hi, rfl, rfl⟩
  case round =>
    obtain ⟨j, hj, rfl, hr⟩ := hrel
    have HR := Lib.hid hr
    clear hr
    by_cases hlt : j < s.size
    · have hu : s[j].toNat < 256 := UInt8.toNat_lt _
      rcases dig_casesI s[j].toNat with ⟨h1, h2⟩ | h | h
      · have HN := Lib.hid (runN_step (s := s) hlt (by rw [ge_idxI hlt]; exact ⟨h1, h2⟩))
        have q1 : decide ((48 : Int) ≤ (s[j].toNat : Int)) = true := decide_eq_true (by omega)
        have q2 : decide ((s[j].toNat : Int) ≤ 57) = true := decide_eq_true (by omega)
        clear h1 h2
        go_wp2_with fail
        go_round
        case rel => exact ⟨j + 1, by omega, by go_num, by rw [← HN.out]; exact HR.out⟩
        case measure => simp [intOf]; omega
      · have HN := Lib.hid (runN_stop (s := s) (i := j) (fun hd => by rw [ge_idxI hlt] at hd; have := hd.2.1; omega))
        have q1 : decide ((48 : Int) ≤ (s[j].toNat : Int)) = false := decide_eq_false (by omega)
        clear h
        go_wp2_with fail
        go_ret
        exact ⟨ret_num (by rw [← HR.out, HN.out]), rfl⟩
      · have HN := Lib.hid (runN_stop (s := s) (i := j) (fun hd => by rw [ge_idxI hlt] at hd; have := hd.2.2; omega))
        have q1 : decide ((48 : Int) ≤ (s[j].toNat : Int)) = true := decide_eq_true (by omega)
        have q2 : decide ((s[j].toNat : Int) ≤ 57) = false := decide_eq_false (by omega)
        clear h
        go_wp2_with fail
        go_ret
        exact ⟨ret_num (by rw [← HR.out, HN.out]), rfl⟩
    · have HN := Lib.hid (runN_stop (s := s) (i := j) (fun hd => hlt hd.1))
      go_wp2_with fail
      go_ret
      exact ⟨ret_num (by rw [← HR.out, HN.out]), rfl⟩
theorem implRunZ (s : ByteArray) (z : Int) (j : Nat) (hz : z = (j : Int)) (w : World) (hs : s.size ≤ 1048576) (hj : j ≤ s.size) :
    Calls Tryz.prog 116 #[.string s, .int .i64 z] w fun e w' => e = .returned (.int .i64 (runN s j)) ∧ w' = w := by
  subst hz; exact implRun s j w hs hj
theorem tup3I {a a' b b' c c' : Int} (h1 : a = a') (h2 : b = b') (h3 : c = c') : Ending.returned (.tuple #[.int .i64 a, .int .i64 b, .int .i64 c]) = Ending.returned (.tuple #[.int .i64 a', .int .i64 b', .int .i64 c']) := by rw [h1, h2, h3]
set_option maxHeartbeats 2000000 in
theorem implFrac (s : ByteArray) (a : Nat) (w : World) (hs : s.size ≤ 1048576) (ha : a ≤ s.size) :
    Calls Tryz.prog 117 #[.string s, .int .i64 a] w fun e w' => e = .returned (.int .i64 (fracN s a)) ∧ w' = w := by
  have HF : Hid (fracN s a = if a < s.size ∧ (s.get! a).toNat = 46 ∧ a + 1 < runN s (a + 1) then runN s (a + 1) else a) := Lib.hid rfl
  by_cases h1 : a < s.size
  · have hua : s[a].toNat < 256 := UInt8.toNat_lt _
    rw [ge_idxI h1] at HF
    by_cases h2 : s[a].toNat = 46
    · have q : ((s[a].toNat : Int) == 46) = true := by rw [h2]; rfl
      have HR := Lib.hid (implRunZ s ((a : Int) + 1) (a + 1) (by omega) w hs (by omega))
      have hra := runN_ge (s := s) (i := a + 1) (by omega)
      by_cases h3 : a + 1 < runN s (a + 1)
      · have HB := Lib.hid (HF.out.trans (if_pos ⟨h1, h2, h3⟩))
        have q3 : (a : Int) + 1 < (runN s (a + 1) : Int) := by omega
        obtain ⟨r, hr⟩ : ∃ r, runN s (a + 1) = r := ⟨_, rfl⟩
        rw [hr] at HR HB q3 hra
        clear hr h2 HF h3
        go_enter Tryz.func117, Tryz.ntmps117
        go_wp2_with fail
        refine HR.out.mono ?_
        rintro e w2 ⟨rfl, rfl⟩
        go_wp2_with fail
        go_ret
        exact ⟨ret_num (by rw [HB.out]), rfl⟩
      · have HB := Lib.hid (HF.out.trans (if_neg (fun h => h3 h.2.2)))
        have q3 : ¬ (a : Int) + 1 < (runN s (a + 1) : Int) := by omega
        obtain ⟨r, hr⟩ : ∃ r, runN s (a + 1) = r := ⟨_, rfl⟩
        rw [hr] at HR q3 hra
        clear hr h2 HF h3
        go_enter Tryz.func117, Tryz.ntmps117
        go_wp2_with fail
        refine HR.out.mono ?_
        rintro e w2 ⟨rfl, rfl⟩
        go_wp2_with fail
        go_ret
        exact ⟨ret_num (by rw [HB.out]), rfl⟩
    · have q : ((s[a].toNat : Int) == 46) = false := by rw [beq_eq_false_iff_ne]; omega
      have HB := Lib.hid (HF.out.trans (if_neg (fun h => h2 h.2.1)))
      clear h2 HF
      go_enter Tryz.func117, Tryz.ntmps117
      go_wp2_with fail
      go_ret
      exact ⟨ret_num (by rw [HB.out]), rfl⟩
  · have HB := Lib.hid (HF.out.trans (if_neg (fun h => h1 h.1)))
    clear HF
    go_enter Tryz.func117, Tryz.ntmps117
    go_wp2_with fail
    go_ret
    exact ⟨ret_num (by rw [HB.out]), rfl⟩
set_option maxHeartbeats 8000000 in
theorem implExp (s : ByteArray) (b : Nat) (w : World) (hs : s.size ≤ 1048576) (hb : b ≤ s.size) :
    Calls Tryz.prog 118 #[.string s, .int .i64 b] w fun e w' => e = .returned (.int .i64 (expN s b)) ∧ w' = w := by
  have HD : Hid (expN s b = if b < s.size ∧ ((s.get! b).toNat = 101 ∨ (s.get! b).toNat = 69) ∧ expK s b < runN s (expK s b) then runN s (expK s b) else b) := Lib.hid rfl
  by_cases h1 : b < s.size
  · have hub0 : s[b].toNat < 256 := UInt8.toNat_lt _
    rcases (show s[b].toNat = 101 ∨ s[b].toNat = 69 ∨ (s[b].toNat ≠ 101 ∧ s[b].toNat ≠ 69) by omega) with h0 | h0 | ⟨h2, h3⟩
    · have q : ((s[b].toNat : Int) != 101) = false := by rw [h0]; rfl
      have h2 : (s.get! b).toNat = 101 ∨ (s.get! b).toNat = 69 := by rw [ge_idxI h1]; exact .inl h0
      have q9 : s[b].toNat ≤ 101 := by omega
      clear h0
      have HB : Hid (expN s b = if expK s b < runN s (expK s b) then runN s (expK s b) else b) := Lib.hid (by
        rw [HD.out]
        by_cases h3 : expK s b < runN s (expK s b)
        · rw [if_pos ⟨h1, h2, h3⟩, if_pos h3]
        · rw [if_neg (fun h4 => h3 h4.2.2), if_neg h3])
      have HKD : Hid (expK s b = if b + 1 < s.size ∧ ((s.get! (b + 1)).toNat = 43 ∨ (s.get! (b + 1)).toNat = 45) then b + 2 else b + 1) := Lib.hid rfl
      have hkl := expK_le h1
      obtain ⟨k, hk⟩ : ∃ k, expK s b = k := ⟨_, rfl⟩
      rw [hk] at HB HKD hkl
      have hrk := runN_ge (s := s) (i := k) (by omega)
      have HR := Lib.hid (implRun s k w hs (by omega))
      clear hk HD
      obtain ⟨r, hr⟩ : ∃ r, runN s k = r := ⟨_, rfl⟩
      rw [hr] at HB HR hrk
      clear hr h2
      obtain ⟨tk, htk⟩ : ∃ tk : Bool, decide (b + 1 < s.size ∧ ((s.get! (b + 1)).toNat = 43 ∨ (s.get! (b + 1)).toNat = 45)) = tk := ⟨_, rfl⟩
      have HTK := Lib.hid htk
      clear htk
      go_enter Tryz.func118, Tryz.ntmps118
      go_upto_region 4 with fail
      go_cut [41] from 7 (fun z wx => z = .bool tk ∧ wx = w)
      case first =>
        by_cases h1 : b + 1 < s.size
        · have hub : s[b + 1].toNat < 256 := UInt8.toNat_lt _
          have hi1 : (b : Int) + 1 < s.size := by omega
          rcases (show s[b + 1].toNat = 43 ∨ s[b + 1].toNat = 45 ∨ (s[b + 1].toNat ≠ 43 ∧ s[b + 1].toNat ≠ 45) by omega) with h2 | h2 | ⟨h2, h3⟩
          · have q : ((s[b + 1].toNat : Int) == 43) = true := by rw [h2]; rfl
            have HE : Hid (true = tk) := Lib.hid (by rw [← HTK.out, ge_idxI h1]; exact (decide_eq_true ⟨h1, .inl h2⟩).symm)
            clear h2
            go_wp2_with fail
            go_meet
            case rel => exact ⟨congrArg Value.bool HE.out, rfl⟩
          · have q : ((s[b + 1].toNat : Int) == 43) = false := by rw [h2]; rfl
            have q2 : ((s[b + 1].toNat : Int) == 45) = true := by rw [h2]; rfl
            have HE : Hid (true = tk) := Lib.hid (by rw [← HTK.out, ge_idxI h1]; exact (decide_eq_true ⟨h1, .inr h2⟩).symm)
            clear h2
            go_wp2_with fail
            go_meet
            case rel => exact ⟨congrArg Value.bool HE.out, rfl⟩
          · have q : ((s[b + 1].toNat : Int) == 43) = false := by rw [beq_eq_false_iff_ne]; omega
            have q2 : ((s[b + 1].toNat : Int) == 45) = false := by rw [beq_eq_false_iff_ne]; omega
            have HE : Hid (false = tk) := Lib.hid (by rw [← HTK.out, ge_idxI h1]; exact (decide_eq_false (fun h => h.2.elim h2 h3)).symm)
            clear h2 h3
            go_wp2_with fail
            go_meet
            case rel => exact ⟨congrArg Value.bool HE.out, rfl⟩
        · have hi1 : ¬ (b : Int) + 1 < s.size := by omega
          have HE : Hid (false = tk) := Lib.hid (by rw [← HTK.out]; exact (decide_eq_false (fun h => h1 h.1)).symm)
          go_wp2_with fail
          go_meet
          case rel => exact ⟨congrArg Value.bool HE.out, rfl⟩
      case rest =>
        obtain ⟨rfl, rfl⟩ := hcut
        go_upto_if 41 with fail
        go_cut [5] from 7 (fun z wx => z = .int .i64 k ∧ wx = wc)
        case first =>
          cases tk with
          | true =>
            have HK := Lib.hid (HKD.out.trans (if_pos (of_decide_eq_true HTK.out)))
            go_wp2_with fail
            go_meet
            case rel => exact ⟨by rw [HK.out]; go_num, rfl⟩
          | false =>
            have HK := Lib.hid (HKD.out.trans (if_neg (of_decide_eq_false HTK.out)))
            go_wp2_with fail
            go_meet
            case rel => exact ⟨by rw [HK.out]; go_num, rfl⟩
        case rest =>
          obtain ⟨rfl, rfl⟩ := hcut
          clear HKD HTK
          go_wp2_with fail
          refine HR.out.mono ?_
          rintro e w2 ⟨rfl, rfl⟩
          by_cases hkr : k < r
          · have HB2 := Lib.hid (HB.out.trans (if_pos hkr))
            have hkr' : (k : Int) < r := by omega
            clear hkr
            go_wp2_with fail
            go_ret
            exact ⟨ret_num (by rw [HB2.out]), rfl⟩
          · have HB2 := Lib.hid (HB.out.trans (if_neg hkr))
            have hkr' : ¬ (k : Int) < r := by omega
            clear hkr
            go_wp2_with fail
            go_ret
            exact ⟨ret_num (by rw [HB2.out]), rfl⟩
    · have q : ((s[b].toNat : Int) != 101) = true := by rw [h0]; rfl
      have q2 : ((s[b].toNat : Int) != 69) = false := by rw [h0]; rfl
      have h2 : (s.get! b).toNat = 101 ∨ (s.get! b).toNat = 69 := by rw [ge_idxI h1]; exact .inr h0
      clear h0
      have HB : Hid (expN s b = if expK s b < runN s (expK s b) then runN s (expK s b) else b) := Lib.hid (by
        rw [HD.out]
        by_cases h3 : expK s b < runN s (expK s b)
        · rw [if_pos ⟨h1, h2, h3⟩, if_pos h3]
        · rw [if_neg (fun h4 => h3 h4.2.2), if_neg h3])
      have HKD : Hid (expK s b = if b + 1 < s.size ∧ ((s.get! (b + 1)).toNat = 43 ∨ (s.get! (b + 1)).toNat = 45) then b + 2 else b + 1) := Lib.hid rfl
      have hkl := expK_le h1
      obtain ⟨k, hk⟩ : ∃ k, expK s b = k := ⟨_, rfl⟩
      rw [hk] at HB HKD hkl
      have hrk := runN_ge (s := s) (i := k) (by omega)
      have HR := Lib.hid (implRun s k w hs (by omega))
      clear hk HD
      obtain ⟨r, hr⟩ : ∃ r, runN s k = r := ⟨_, rfl⟩
      rw [hr] at HB HR hrk
      clear hr h2
      obtain ⟨tk, htk⟩ : ∃ tk : Bool, decide (b + 1 < s.size ∧ ((s.get! (b + 1)).toNat = 43 ∨ (s.get! (b + 1)).toNat = 45)) = tk := ⟨_, rfl⟩
      have HTK := Lib.hid htk
      clear htk
      go_enter Tryz.func118, Tryz.ntmps118
      go_upto_region 4 with fail
      go_cut [41] from 7 (fun z wx => z = .bool tk ∧ wx = w)
      case first =>
        by_cases h1 : b + 1 < s.size
        · have hub : s[b + 1].toNat < 256 := UInt8.toNat_lt _
          have hi1 : (b : Int) + 1 < s.size := by omega
          rcases (show s[b + 1].toNat = 43 ∨ s[b + 1].toNat = 45 ∨ (s[b + 1].toNat ≠ 43 ∧ s[b + 1].toNat ≠ 45) by omega) with h2 | h2 | ⟨h2, h3⟩
          · have q : ((s[b + 1].toNat : Int) == 43) = true := by rw [h2]; rfl
            have HE : Hid (true = tk) := Lib.hid (by rw [← HTK.out, ge_idxI h1]; exact (decide_eq_true ⟨h1, .inl h2⟩).symm)
            clear h2
            go_wp2_with fail
            go_meet
            case rel => exact ⟨congrArg Value.bool HE.out, rfl⟩
          · have q : ((s[b + 1].toNat : Int) == 43) = false := by rw [h2]; rfl
            have q2 : ((s[b + 1].toNat : Int) == 45) = true := by rw [h2]; rfl
            have HE : Hid (true = tk) := Lib.hid (by rw [← HTK.out, ge_idxI h1]; exact (decide_eq_true ⟨h1, .inr h2⟩).symm)
            clear h2
            go_wp2_with fail
            go_meet
            case rel => exact ⟨congrArg Value.bool HE.out, rfl⟩
          · have q : ((s[b + 1].toNat : Int) == 43) = false := by rw [beq_eq_false_iff_ne]; omega
            have q2 : ((s[b + 1].toNat : Int) == 45) = false := by rw [beq_eq_false_iff_ne]; omega
            have HE : Hid (false = tk) := Lib.hid (by rw [← HTK.out, ge_idxI h1]; exact (decide_eq_false (fun h => h.2.elim h2 h3)).symm)
            clear h2 h3
            go_wp2_with fail
            go_meet
            case rel => exact ⟨congrArg Value.bool HE.out, rfl⟩
        · have hi1 : ¬ (b : Int) + 1 < s.size := by omega
          have HE : Hid (false = tk) := Lib.hid (by rw [← HTK.out]; exact (decide_eq_false (fun h => h1 h.1)).symm)
          go_wp2_with fail
          go_meet
          case rel => exact ⟨congrArg Value.bool HE.out, rfl⟩
      case rest =>
        obtain ⟨rfl, rfl⟩ := hcut
        go_upto_if 41 with fail
        go_cut [5] from 7 (fun z wx => z = .int .i64 k ∧ wx = wc)
        case first =>
          cases tk with
          | true =>
            have HK := Lib.hid (HKD.out.trans (if_pos (of_decide_eq_true HTK.out)))
            go_wp2_with fail
            go_meet
            case rel => exact ⟨by rw [HK.out]; go_num, rfl⟩
          | false =>
            have HK := Lib.hid (HKD.out.trans (if_neg (of_decide_eq_false HTK.out)))
            go_wp2_with fail
            go_meet
            case rel => exact ⟨by rw [HK.out]; go_num, rfl⟩
        case rest =>
          obtain ⟨rfl, rfl⟩ := hcut
          clear HKD HTK
          go_wp2_with fail
          refine HR.out.mono ?_
          rintro e w2 ⟨rfl, rfl⟩
          by_cases hkr : k < r
          · have HB2 := Lib.hid (HB.out.trans (if_pos hkr))
            have hkr' : (k : Int) < r := by omega
            clear hkr
            go_wp2_with fail
            go_ret
            exact ⟨ret_num (by rw [HB2.out]), rfl⟩
          · have HB2 := Lib.hid (HB.out.trans (if_neg hkr))
            have hkr' : ¬ (k : Int) < r := by omega
            clear hkr
            go_wp2_with fail
            go_ret
            exact ⟨ret_num (by rw [HB2.out]), rfl⟩
    · have q : ((s[b].toNat : Int) != 101) = true := by simp; omega
      have q2 : ((s[b].toNat : Int) != 69) = true := by simp; omega
      have HB := Lib.hid (HD.out.trans (if_neg (fun h => by rw [ge_idxI h1] at h; exact h.2.1.elim h2 h3)))
      clear h2 h3 HD
      go_enter Tryz.func118, Tryz.ntmps118
      go_wp2_with fail
      go_ret
      exact ⟨ret_num (by rw [HB.out]), rfl⟩
  · have HB := Lib.hid (HD.out.trans (if_neg (fun h => h1 h.1)))
    clear HD
    go_enter Tryz.func118, Tryz.ntmps118
    go_wp2_with fail
    go_ret
    exact ⟨ret_num (by rw [HB.out]), rfl⟩
end Go.Proofs.YtbfddabljkoapaaGreatDoor

/-
  The program's parts of a number.
-/
namespace Go.Proofs.YtbfddabljkoapaaGreatDoor
open Go.RowKit
set_option linter.unusedVariables false
set_option linter.unusedSimpArgs false
set_option maxRecDepth 100000

/-- Where a number's digits begin, the end of the text taken in. -/
def fAtE (s : ByteArray) (i : Nat) : Nat := if i < s.size then fAt s i else i
theorem fAtE_lt {s : ByteArray} {i : Nat} (h : i < s.size) : fAtE s i = fAt s i := if_pos h
theorem fAtE_le {s : ByteArray} {i : Nat} (h : i ≤ s.size) : fAtE s i ≤ s.size := by
  unfold fAtE
  split
  · rename_i h2; exact (fAt_le h2).2.2
  · exact h
set_option maxHeartbeats 8000000 in
theorem implNumber (s : ByteArray) (i : Nat) (w : World) (hs : s.size ≤ 1048576) (hi : i ≤ s.size) :
    Calls Tryz.prog 79 #[.string s, .int .i64 i] w fun e w' => w' = w ∧
      (runN s (fAtE s i) = fAtE s i → e = .returned (.tuple #[.int .i64 (-1), .int .i64 (-1), .int .i64 (-1)])) ∧
      (runN s (fAtE s i) ≠ fAtE s i → e = .returned (.tuple #[.int .i64 (expN s (fracN s (wholeAt s (fAtE s i)))), .int .i64 (wholeAt s (fAtE s i)), .int .i64 (fracN s (wholeAt s (fAtE s i)))])) := by
  have hfl := fAtE_le hi
  have HK : Hid (fAtE s i = if i < s.size then (if (s.get! i).toNat = 45 then i + 1 else i) else i) := Lib.hid rfl
  obtain ⟨f, hf⟩ : ∃ f, fAtE s i = f := ⟨_, rfl⟩
  rw [hf] at HK hfl ⊢
  clear hf
  have hge := runN_ge hfl
  have HR := Lib.hid (implRun s f w hs hfl)
  by_cases hr : runN s f = f
  · have HQ := Lib.hid hr
    rw [hr] at HR
    clear hr
    go_enter Tryz.func79, Tryz.ntmps79
    go_upto_region 2 with fail
    go_cut [20] from 10 (fun z wx => z = .bool (decide (i < s.size ∧ (s.get! i).toNat = 45)) ∧ wx = w)
    case first =>
      by_cases h1 : i < s.size
      · have hu : s[i].toNat < 256 := UInt8.toNat_lt _
        by_cases h2 : s[i].toNat = 45
        · have q : ((s[i].toNat : Int) == 45) = true := by rw [h2]; rfl
          have HE : Hid (true = decide (i < s.size ∧ (s.get! i).toNat = 45)) := Lib.hid (by rw [ge_idxI h1]; exact (decide_eq_true ⟨h1, h2⟩).symm)
          clear h2
          go_wp2_with fail
          go_meet
          case rel => exact ⟨congrArg Value.bool HE.out, rfl⟩
        · have q : ((s[i].toNat : Int) == 45) = false := by rw [beq_eq_false_iff_ne]; omega
          have HE : Hid (false = decide (i < s.size ∧ (s.get! i).toNat = 45)) := Lib.hid (by rw [ge_idxI h1]; exact (decide_eq_false (fun h => h2 h.2)).symm)
          clear h2
          go_wp2_with fail
          go_meet
          case rel => exact ⟨congrArg Value.bool HE.out, rfl⟩
      · have HE : Hid (false = decide (i < s.size ∧ (s.get! i).toNat = 45)) := Lib.hid (decide_eq_false (fun h => h1 h.1)).symm
        go_wp2_with fail
        go_meet
        case rel => exact ⟨congrArg Value.bool HE.out, rfl⟩
    case rest =>
      obtain ⟨rfl, rfl⟩ := hcut
      obtain ⟨tb, htb⟩ : ∃ tb, decide (i < s.size ∧ (s.get! i).toNat = 45) = tb := ⟨_, rfl⟩
      have HT := Lib.hid htb
      rw [htb]
      clear htb
      go_upto_if 20 with fail
      go_cut [7] from 10 (fun z wx => z = .int .i64 f ∧ wx = wc)
      case first =>
        cases tb with
        | true =>
          have h := of_decide_eq_true HT.out
          have HF : Hid (f = i + 1) := Lib.hid (by rw [HK.out, if_pos h.1, if_pos h.2])
          clear h
          go_wp2_with fail
          go_meet
          case rel => exact ⟨by rw [HF.out]; go_num, rfl⟩
        | false =>
          have h := of_decide_eq_false HT.out
          have HF : Hid (f = i) := Lib.hid (by
            rw [HK.out]
            by_cases h1 : i < s.size
            · rw [if_pos h1, if_neg (fun h2 => h ⟨h1, h2⟩)]
            · rw [if_neg h1])
          clear h
          go_wp2_with fail
          go_meet
          case rel => exact ⟨by rw [HF.out], rfl⟩
      case rest =>
        obtain ⟨rfl, rfl⟩ := hcut
        go_wp2_with fail
        refine HR.out.mono ?_
        rintro e w2 ⟨rfl, rfl⟩
        go_wp2_with fail
        go_ret3
        exact ⟨rfl, fun _ => rfl, fun h => absurd HQ.out h⟩
  · have HQ := Lib.hid hr
    have hflt : f < s.size := Classical.byContradiction fun h => hr (runN_stop (fun h2 => h h2.1))
    have hal := wholeAt_le hfl hr
    have HW : Hid (wholeAt s f = if s[f].toNat = 48 then f + 1 else runN s f) := Lib.hid (by unfold wholeAt; rw [ge_idxI hflt])
    obtain ⟨a, ha⟩ : ∃ a, wholeAt s f = a := ⟨_, rfl⟩
    have hq : ((runN s f : Int) == (f : Int)) = false := by rw [beq_eq_false_iff_ne]; omega
    rw [ha] at HW hal ⊢
    have hbl := fracN_le hal.2.2
    have HFR := Lib.hid (implFrac s a w hs hal.2.2)
    obtain ⟨b, hb⟩ : ∃ b, fracN s a = b := ⟨_, rfl⟩
    rw [hb] at HFR hbl ⊢
    have HEX := Lib.hid (implExp s b w hs hbl.2)
    have hdl := expN_le hbl.2
    obtain ⟨d, hd⟩ : ∃ d, expN s b = d := ⟨_, rfl⟩
    rw [hd] at HEX hdl ⊢
    obtain ⟨r, hrr⟩ : ∃ r, runN s f = r := ⟨_, rfl⟩
    rw [hrr] at HW hq hge HR HQ ⊢
    clear hrr hr hd hb ha
    have hu : s[f].toNat < 256 := UInt8.toNat_lt _
    go_enter Tryz.func79, Tryz.ntmps79
    go_upto_region 2 with fail
    go_cut [20] from 10 (fun z wx => z = .bool (decide (i < s.size ∧ (s.get! i).toNat = 45)) ∧ wx = w)
    case first =>
      by_cases h1 : i < s.size
      · have hu : s[i].toNat < 256 := UInt8.toNat_lt _
        by_cases h2 : s[i].toNat = 45
        · have q : ((s[i].toNat : Int) == 45) = true := by rw [h2]; rfl
          have HE : Hid (true = decide (i < s.size ∧ (s.get! i).toNat = 45)) := Lib.hid (by rw [ge_idxI h1]; exact (decide_eq_true ⟨h1, h2⟩).symm)
          clear h2
          go_wp2_with fail
          go_meet
          case rel => exact ⟨congrArg Value.bool HE.out, rfl⟩
        · have q : ((s[i].toNat : Int) == 45) = false := by rw [beq_eq_false_iff_ne]; omega
          have HE : Hid (false = decide (i < s.size ∧ (s.get! i).toNat = 45)) := Lib.hid (by rw [ge_idxI h1]; exact (decide_eq_false (fun h => h2 h.2)).symm)
          clear h2
          go_wp2_with fail
          go_meet
          case rel => exact ⟨congrArg Value.bool HE.out, rfl⟩
      · have HE : Hid (false = decide (i < s.size ∧ (s.get! i).toNat = 45)) := Lib.hid (decide_eq_false (fun h => h1 h.1)).symm
        go_wp2_with fail
        go_meet
        case rel => exact ⟨congrArg Value.bool HE.out, rfl⟩
    case rest =>
      obtain ⟨rfl, rfl⟩ := hcut
      obtain ⟨tb, htb⟩ : ∃ tb, decide (i < s.size ∧ (s.get! i).toNat = 45) = tb := ⟨_, rfl⟩
      have HT := Lib.hid htb
      rw [htb]
      clear htb
      go_upto_if 20 with fail
      go_cut [7] from 10 (fun z wx => z = .int .i64 f ∧ wx = wc)
      case first =>
        cases tb with
        | true =>
          have h := of_decide_eq_true HT.out
          have HF : Hid (f = i + 1) := Lib.hid (by rw [HK.out, if_pos h.1, if_pos h.2])
          clear h
          go_wp2_with fail
          go_meet
          case rel => exact ⟨by rw [HF.out]; go_num, rfl⟩
        | false =>
          have h := of_decide_eq_false HT.out
          have HF : Hid (f = i) := Lib.hid (by
            rw [HK.out]
            by_cases h1 : i < s.size
            · rw [if_pos h1, if_neg (fun h2 => h ⟨h1, h2⟩)]
            · rw [if_neg h1])
          clear h
          go_wp2_with fail
          go_meet
          case rel => exact ⟨by rw [HF.out], rfl⟩
      case rest =>
        obtain ⟨rfl, rfl⟩ := hcut
        go_wp2_with fail
        refine HR.out.mono ?_
        rintro e w2 ⟨rfl, rfl⟩
        by_cases h48 : s[f].toNat = 48
        · have q : ((s[f].toNat : Int) == 48) = true := by rw [h48]; rfl
          have HA := Lib.hid (HW.out.trans (if_pos h48))
          have HFR2 := Lib.hid (show Calls Tryz.prog 117 #[.string s, .int .i64 ((f : Int) + 1)] w2 fun e w' => e = .returned (.int .i64 b) ∧ w' = w2 by have := HFR.out; rw [HA.out] at this; simpa using this)
          clear h48
          go_wp2_with fail
          refine HFR2.out.mono ?_
          rintro e w3 ⟨rfl, rfl⟩
          go_wp2_with fail
          refine HEX.out.mono ?_
          rintro e w4 ⟨rfl, rfl⟩
          go_wp2_with fail
          go_ret3
          exact ⟨rfl, fun h => absurd h HQ.out, fun _ => tup3I rfl (by rw [HA.out]; omega) rfl⟩
        · have q : ((s[f].toNat : Int) == 48) = false := by rw [beq_eq_false_iff_ne]; omega
          have HA := Lib.hid (HW.out.trans (if_neg h48))
          have HFR2 := Lib.hid (show Calls Tryz.prog 117 #[.string s, .int .i64 (r : Int)] w2 fun e w' => e = .returned (.int .i64 b) ∧ w' = w2 by have := HFR.out; rw [HA.out] at this; exact this)
          clear h48
          go_wp2_with fail
          refine HFR2.out.mono ?_
          rintro e w3 ⟨rfl, rfl⟩
          go_wp2_with fail
          refine HEX.out.mono ?_
          rintro e w4 ⟨rfl, rfl⟩
          go_wp2_with fail
          go_ret3
          exact ⟨rfl, fun h => absurd h HQ.out, fun _ => tup3I rfl (by rw [HA.out]) rfl⟩
end Go.Proofs.YtbfddabljkoapaaGreatDoor

/-
  ReadDec of the program, and both together.
-/
namespace Go.Proofs.YtbfddabljkoapaaGreatDoor
open Go.RowKit
set_option linter.unusedVariables false

theorem itoa_len (v : Int) (h : -9223372036854775808 ≤ v ∧ v ≤ 9223372036854775807) : (str (Lib.itoa v)).size ≤ 20 := by
  rw [strlen]
  unfold Lib.itoa
  split
  · have := dec_len v.natAbs (by omega)
    simp only [List.length_cons]; omega
  · have := dec_len v.toNat (by omega)
    omega
theorem specReadDec_yes (v : Int) (w : World) (h : -9223372036854775808 ≤ v ∧ v ≤ 9223372036854775807) :
    Calls Tryz.prog 20 #[.string (str (Lib.itoa v))] w fun e w' => e = .returned (.tuple #[.int .i64 v, .bool true]) ∧ w = w' := by
  by_cases h0 : v < 0
  · obtain ⟨u, rfl⟩ : ∃ u : Nat, v = -(u : Int) := ⟨v.natAbs, by omega⟩
    exact specReadDec_yesM u w (by omega) (by omega)
  · obtain ⟨u, rfl⟩ := Int.eq_ofNat_of_zero_le (show 0 ≤ v by omega)
    exact specReadDec_yesP u w (by omega)
theorem specReadDec_no (s : ByteArray) (w : World) (hs : s.size ≤ 1048576) (hno : NoDec s) :
    Calls Tryz.prog 20 #[.string s] w fun e w' => e = .returned (.tuple #[.int .i64 0, .bool false]) ∧ w = w' := by
  by_cases h0 : 0 < s.size
  · by_cases h45 : s[0].toNat = 45
    · exact specReadDec_noM s w hs hno h0 h45
    · exact specReadDec_noP s w hs hno h0 h45
  · exact specReadDec_noE s w hs hno (by omega)

/-- The library's two errors are there. -/
def Errs (w : World) : Prop := ∃ t p t' p', w.cell? ⟨3, 0, none⟩ = some (.iface t p) ∧ w.cell? ⟨4, 0, none⟩ = some (.iface t' p')
theorem Errs.below {w w' : World} {B : Nat} (h : Errs w) (hb : Below B w w') (hB : w.heap.size ≤ B) : Errs w' := by
  obtain ⟨t, p, t', p', h1, h2⟩ := h
  refine ⟨t, p, t', p', ?_, ?_⟩
  · rw [hb.cell (Nat.lt_of_lt_of_le (block_lt_of_cell h1) hB)]; exact h1
  · rw [hb.cell (Nat.lt_of_lt_of_le (block_lt_of_cell h2) hB)]; exact h2
theorem atoi_world {w w' : World} {e : TypeId} (h : w' = w ∨ ∃ t, w' = Lib.bytesWorld w e t) : Below w.heap.size w w' := by
  rcases h with rfl | ⟨t, rfl⟩
  · exact Below.refl _ _
  · exact Lib.bytesWorld_below _ _ _

set_option maxHeartbeats 1000000 in
theorem implReadDec_ok (s : ByteArray) (v : Int) (w : World) (hs : s.size ≤ 1048576) (h : -9223372036854775808 ≤ v ∧ v ≤ 9223372036854775807) (ha : Lib.atoiAll s.data.toList = .ok v) (b : Bool) (hb : ((str (Lib.itoa v)).toList == s.toList) = b) (hP : Pow10 w) :
    Calls Tryz.prog 19 #[.string s] w fun e w' => e = .returned (.tuple #[.int .i64 (if b then v else 0), .bool b]) ∧ Below w.heap.size w w' := by
  have HP := Lib.hid hP
  have HB := Lib.hid hb
  clear hP hb
  go_enter Tryz.func19, Tryz.ntmps19
  go_wp2_with fail
  refine (Tryz.strconv_Atoi_ok s (by omega) v ha w).mono ?_
  rintro e w1 ⟨rfl, hw1⟩
  have hb1 := atoi_world hw1
  clear hw1
  go_wp2_with fail
  refine (Tryz.strconv_Itoa v h.1 h.2 w1 (HP.out.below hb1 (Nat.le_refl _))).mono ?_
  rintro e w2 ⟨rfl, k, os, rfl⟩
  have hb2 := Lib.below_grow w1.heap.size w1 (Nat.le_refl _) k os
  have HB' : ((str (Lib.itoa v)).toList == s.toList) = b := HB.out
  rw [show (⟨(Lib.itoa v).toArray⟩ : ByteArray) = str (Lib.itoa v) from rfl]
  cases b with
  | true =>
    go_wp2_with fail
    all_goals go_ret2
    all_goals first
      | exact ⟨rfl, hb1.trans (hb2.mono hb1.size)⟩
      | (have hq : (!(str (Lib.itoa v)).toList == s.toList) = true := by assumption
         rw [HB'] at hq; cases hq)
  | false =>
    go_wp2_with fail
    all_goals go_ret2
    all_goals first
      | exact ⟨rfl, hb1.trans (hb2.mono hb1.size)⟩
      | (have hq : (!(str (Lib.itoa v)).toList == s.toList) = false := by assumption
         rw [HB'] at hq; cases hq)
theorem implReadDec_yes (v : Int) (w : World) (h : -9223372036854775808 ≤ v ∧ v ≤ 9223372036854775807) (hP : Pow10 w) :
    Calls Tryz.prog 19 #[.string (str (Lib.itoa v))] w fun e w' => e = .returned (.tuple #[.int .i64 v, .bool true]) ∧ Below w.heap.size w w' :=
  implReadDec_ok _ v w (Nat.le_trans (itoa_len v h) (by omega)) h (by have e : (str (Lib.itoa v)).data.toList = Lib.itoa v := by simp [str]
                                                                      rw [e]; exact atoi_itoa v h) true (by simp) hP

set_option maxHeartbeats 1000000 in
theorem implReadDec_no (s : ByteArray) (w : World) (hs : s.size ≤ 1048576) (hno : NoDec s) (hP : Pow10 w) (hE : Errs w) :
    Calls Tryz.prog 19 #[.string s] w fun e w' => e = .returned (.tuple #[.int .i64 0, .bool false]) ∧ Below w.heap.size w w' := by
  cases ha : Lib.atoiAll s.data.toList with
  | ok v =>
    have h := Lib.atoiAll_bounds ha
    exact implReadDec_ok s v w hs h ha false (by rw [ba_list]; exact decide_eq_false (hno v h)) hP
  | range =>
    obtain ⟨t, p, t', p', h1, h2⟩ := hE
    have H2 := Lib.hid h2
    clear h1 h2
    go_enter Tryz.func19, Tryz.ntmps19
    go_wp2_with fail
    refine (Tryz.strconv_Atoi_range s (by omega) ha _ w H2.out (.inr ⟨_, _, rfl⟩)).mono ?_
    rintro e w1 ⟨N, rfl, hN, hc, hb1⟩
    go_wp2_with fail
    go_ret2
    exact ⟨rfl, hb1⟩
  | _ =>
    obtain ⟨t, p, t', p', h1, h2⟩ := hE
    have H1 := Lib.hid h1
    clear h1 h2
    go_enter Tryz.func19, Tryz.ntmps19
    go_wp2_with fail
    refine (Tryz.strconv_Atoi_bad s (by omega) (fun v e => by rw [ha] at e; cases e) (fun e => by rw [ha] at e; cases e) _ w H1.out (.inr ⟨_, _, rfl⟩)).mono ?_
    rintro e w1 ⟨N, rfl, hN, hc, hb1⟩
    go_wp2_with fail
    go_ret2
    exact ⟨rfl, hb1⟩

theorem gES : Tryz.prog.globalNamed "strconv.ErrSyntax" = some 3 := by kernel_rfl
theorem gEST : (Tryz.prog.globals[3]?).map (·.type) = some 74 := by kernel_rfl
theorem gER : Tryz.prog.globalNamed "strconv.ErrRange" = some 4 := by kernel_rfl
theorem gERT : (Tryz.prog.globals[4]?).map (·.type) = some 74 := by kernel_rfl
theorem star : "*" ++ "errors.errorString" = "*errors.errorString" := by decide
theorem rowErr (u : TypeId) (h : Tryz.prog.typeName? 3 u = some "*errors.errorString") : u = 176 :=
  typeName_ptr_named (nm := "errors.errorString") (by rw [star]; kernel_rfl) (by kernel_rfl) (by decide) u (by rw [star]; exact h)
theorem errs_of_laid {l : List (String × DataW Unit)} {W : World} (h : laidMet Tryz.prog (("strconv.ErrRange", Rows.laid_strconv_ErrRange) :: ("strconv.ErrSyntax", Rows.laid_strconv_ErrSyntax) :: l) W) : Errs W := by
  obtain ⟨a0, s0, hv0, -, -, -⟩ := laid_sentinel h gER gERT Tryz.underlying74 rowErr Tryz.underlying176 Tryz.underlying178 rfl rfl Tryz.underlying9 (by kernel_rfl) (by kernel_rfl)
  obtain ⟨a1, s1, hv1, -, -, -⟩ := laid_sentinel h.tail gES gEST Tryz.underlying74 rowErr Tryz.underlying176 Tryz.underlying178 rfl rfl Tryz.underlying9 (by kernel_rfl) (by kernel_rfl)
  refine ⟨176, .pointer (some a1), 176, .pointer (some a0), ?_, ?_⟩
  · have := World.var?_cell gES hv1 0
    simpa using this
  · have := World.var?_cell gER hv0 0
    simpa using this
end Go.Proofs.YtbfddabljkoapaaGreatDoor

/-
  The program's exponent, and ReadDec in one form.
-/
namespace Go.Proofs.YtbfddabljkoapaaGreatDoor
open Go.RowKit
set_option linter.unusedVariables false
set_option linter.unusedSimpArgs false
set_option maxRecDepth 100000

theorem implReadZ (t : ByteArray) (w : World) (hs : t.size ≤ 1048576) (hP : Pow10 w) (hE : Errs w) :
    Calls Tryz.prog 19 #[.string t] w fun e w' => e = .returned (.tuple #[.int .i64 ((readZ t).getD 0), .bool (readZ t).isSome]) ∧ Below w.heap.size w w' := by
  cases h : readZ t with
  | some v =>
    obtain ⟨hv, rfl⟩ := readZ_some h
    exact implReadDec_yes v w hv hP
  | none => exact implReadDec_no t w hs (readZ_none h) hP hE
theorem specReadZ (t : ByteArray) (w : World) (hs : t.size ≤ 1048576) :
    Calls Tryz.prog 20 #[.string t] w fun e w' => e = .returned (.tuple #[.int .i64 ((readZ t).getD 0), .bool (readZ t).isSome]) ∧ w = w' := by
  cases h : readZ t with
  | some v =>
    obtain ⟨hv, rfl⟩ := readZ_some h
    exact specReadDec_yes v w hv
  | none => exact specReadDec_no t w hs (readZ_none h)
theorem readZ_range (t : ByteArray) : -9223372036854775808 ≤ (readZ t).getD 0 ∧ (readZ t).getD 0 ≤ 9223372036854775807 := by
  cases h : readZ t with
  | some v => exact (readZ_some h).1
  | none => simp
/-- Digits without a nought ahead are their number's own. -/
theorem dec_dval : ∀ (T : List UInt8) (a : UInt8), (∀ b ∈ a :: T, isDig b) → a ≠ 48 → Lib.decDigits (dval (a :: T)) = a :: T := by
  have key : ∀ (k : Nat) (T : List UInt8), T.length = k → ∀ a, (∀ b ∈ a :: T, isDig b) → a ≠ 48 → Lib.decDigits (dval (a :: T)) = a :: T ∧ 1 ≤ dval (a :: T) := by
    intro k
    induction k with
    | zero =>
      intro T hT a hd ha
      have : T = [] := List.eq_nil_of_length_eq_zero hT
      subst this
      have h1 := hd a (by simp)
      have h2 : a.toNat ≠ 48 := fun e => ha (UInt8.toNat_inj.1 e)
      unfold isDig at h1
      have e : dval [a] = a.toNat - 48 := by simp [dval]
      rw [e, Lib.decDigits, dif_pos (by omega)]
      refine ⟨?_, by omega⟩
      congr 1
      apply UInt8.toNat_inj.1
      rw [UInt8.toNat_ofNat']
      omega
    | succ k ih =>
      intro T hT a hd ha
      rcases List.eq_nil_or_concat T with h | ⟨r, c, h⟩
      · subst h; simp at hT
      · rw [List.concat_eq_append] at h
        subst h
        obtain ⟨h1, h2⟩ := ih r (by simpa using hT) a (fun b hb => hd b (by rcases List.mem_cons.1 hb with rfl | hb <;> simp [*])) ha
        have hc := hd c (by simp)
        unfold isDig at hc
        rw [← List.cons_append, dval_snoc]
        refine ⟨?_, by omega⟩
        rw [Lib.decDigits, dif_neg (by omega), show (10 * dval (a :: r) + (c.toNat - 48)) / 10 = dval (a :: r) by omega, h1, show (10 * dval (a :: r) + (c.toNat - 48)) % 10 = c.toNat - 48 by omega]
        congr 2
        apply UInt8.toNat_inj.1
        rw [UInt8.toNat_ofNat']
        omega
  exact fun T a hd ha => (key T.length T rfl a hd ha).1
theorem dval_lt : ∀ (l : List UInt8), (∀ b ∈ l, isDig b) → dval l < 10 ^ l.length := by
  have key : ∀ (k : Nat) (l : List UInt8), l.length = k → (∀ b ∈ l, isDig b) → dval l < 10 ^ k := by
    intro k
    induction k with
    | zero =>
      intro l hl _
      have : l = [] := List.eq_nil_of_length_eq_zero hl
      subst this
      decide
    | succ k ih =>
      intro l hl hd
      rcases List.eq_nil_or_concat l with h | ⟨r, c, h⟩
      · subst h; simp at hl
      · rw [List.concat_eq_append] at h
        subst h
        have h1 := ih r (by simpa using hl) (fun b hb => hd b (by simp [hb]))
        have hc := hd c (by simp)
        unfold isDig at hc
        rw [dval_snoc, Nat.pow_succ]
        omega
  exact fun l h => key l.length l rfl h
theorem readZ_digits {T : List UInt8} (hd : ∀ b ∈ T, isDig b) (hl : T.length ≤ 18) (h48 : ∀ a r, T = a :: r → a ≠ 48) (hne : T ≠ []) : readZ (str T) = some (dval T : Int) := by
  have hlt := dval_lt T hd
  have h18 : 10 ^ T.length ≤ 10 ^ 18 := Nat.pow_le_pow_right (by omega) hl
  cases T with
  | nil => exact absurd rfl hne
  | cons a r =>
    have e := dec_dval r a hd (h48 a r rfl)
    have := readZ_yes (v := (dval (a :: r) : Int)) (by omega)
    rw [itoa_pos, e] at this
    exact this
theorem readZ_empty : readZ (str []) = none := by
  cases h : readZ (str []) with
  | none => rfl
  | some v =>
    obtain ⟨hv, he⟩ := readZ_some h
    have := str_inj he
    unfold Lib.itoa at this
    split at this
    · cases this
    · exact absurd this (dec_ne _)
theorem readZ_nought : readZ (str [48]) = some 0 := by
  have := readZ_yes (v := 0) (by omega)
  rwa [show Lib.itoa 0 = [48] by decide +kernel] at this
theorem trim_exp {sg DD : List UInt8} (hs : sg = [] ∨ sg = [43] ∨ sg = [45]) (hd : ∀ b ∈ DD, isDig b) : Lib.trimLeftS (sg ++ DD) [43, 45, 48] = dropZ DD := by
  have h1 : ∀ l : List UInt8, (∀ b ∈ l, isDig b) → l.dropWhile (([43, 45, 48] : List UInt8).contains ·) = l.dropWhile (· == 48) := by
    intro l
    induction l with
    | nil => intro _; rfl
    | cons b l ih =>
      intro h
      have hb := h b (by simp)
      by_cases h48 : b = 48
      · subst h48
        rw [List.dropWhile_cons_of_pos (by decide), List.dropWhile_cons_of_pos (by decide)]
        exact ih (fun x hx => h x (by simp [hx]))
      · have h43 : b ≠ 43 := by rintro rfl; revert hb; decide
        have h45 : b ≠ 45 := by rintro rfl; revert hb; decide
        rw [List.dropWhile_cons_of_neg (by simp [h43, h45, h48]), List.dropWhile_cons_of_neg (by simp [h48])]
  unfold Lib.trimLeftS dropZ
  rcases hs with rfl | rfl | rfl
  · exact h1 DD hd
  · rw [List.singleton_append, List.dropWhile_cons_of_pos (by decide)]; exact h1 DD hd
  · rw [List.singleton_append, List.dropWhile_cons_of_pos (by decide)]; exact h1 DD hd
theorem ascii_cut : ∀ (j : Nat) b, (⟨#[43, 45, 48]⟩ : ByteArray).data.toList[j]? = some b → b.toNat < 128 := by
  intro j b h
  have : ∀ x ∈ (⟨#[43, 45, 48]⟩ : ByteArray).data.toList, x.toNat < 128 := by decide
  exact this b (List.mem_of_getElem? h)

set_option maxHeartbeats 2000000 in
theorem implExpOf_none (w : World) : Calls Tryz.prog 84 #[.string (str [])] w fun e w' => e = .returned (.int .i64 0) ∧ w' = w := by
  have hE : (str []).toList.isEmpty = true := by rw [ByteArray.toList_eq]; rfl
  obtain ⟨s, hs⟩ : ∃ s, str [] = s := ⟨_, rfl⟩
  rw [hs] at hE ⊢
  clear hs
  go_enter Tryz.func84, Tryz.ntmps84
  go_wp2_with fail
  go_ret
  exact ⟨rfl, rfl⟩
set_option maxHeartbeats 4000000 in
theorem implExpOf (l sg DD : List UInt8) (x : UInt8) (w : World) (h : ExpOf l x sg DD) (hl : l.length ≤ 100) (hP : Pow10 w) (hE : Errs w) :
    Calls Tryz.prog 84 #[.string (str l)] w fun e w' => e = .returned (.int .i64 (expI sg DD)) ∧ Below w.heap.size w w' := by
  have hl0 := h.1
  have hdz : ∀ b ∈ dropZ DD, isDig b := fun b hb => h.2.2.2.2 b (dropZ_mem hb)
  have hne : (str l).toList.isEmpty = false := by
    rw [ByteArray.toList_eq, hl0]; rfl
  have hsz : (str l).size = l.length := strlen l
  have hl2 : 2 ≤ l.length := by
    rw [hl0]
    have := List.length_pos_iff.2 h.2.2.2.1
    simp only [List.length_cons, List.length_append]; omega
  have hcut : (str l).extract 1 (str l).size = str (sg ++ DD) := by
    apply ByteArray.ext
    apply Array.ext'
    rw [hl0]
    simp [str, ByteArray.size]
    exact List.take_of_length_le (by simp)
  have HTR := Lib.hid (fun W => Tryz.strings_TrimLeft_set (str (sg ++ DD)) ⟨#[43, 45, 48]⟩ W (by decide) ascii_cut)
  rw [show (Lib.trimLeftS (str (sg ++ DD)).data.toList (⟨#[43, 45, 48]⟩ : ByteArray).data.toList) = dropZ DD from (by have := trim_exp h.2.2.1 h.2.2.2.2; simpa [str] using this)] at HTR
  have HTR2 : Hid (∀ W, Calls Tryz.prog 81 #[.string (str (sg ++ DD)), .string ⟨#[43, 45, 48]⟩] W fun e w' => e = .returned (.string (str (dropZ DD))) ∧ Below W.heap.size W w') := HTR
  have h1 : ∀ hh, ((str l)[1]'hh).toNat = 45 ↔ sg = [45] := by
    intro hh
    have e : ∀ hh2, ((str l)[1]'hh) = l[1]'hh2 := fun hh2 => rfl
    have hlt : 1 < l.length := by omega
    rw [e hlt]
    obtain ⟨rfl, hx, hs, hne2, hd⟩ := h
    rcases hs with rfl | rfl | rfl
    · constructor
      · intro h45
        cases DD with
        | nil => exact absurd rfl hne2
        | cons c r =>
          have := hd c (by simp)
          have h45' : c.toNat = 45 := h45
          unfold isDig at this
          omega
      · intro h; cases h
    · constructor
      · intro h45; exact absurd (show (43 : UInt8).toNat = 45 from h45) (by decide)
      · intro h; cases h
    · exact ⟨fun _ => rfl, fun _ => rfl⟩
  have hlt1 : 1 < (str l).size := by omega
  obtain ⟨tm, htm⟩ : ∃ tm : Bool, decide (sg = [45]) = tm := ⟨_, rfl⟩
  have hq : ∀ hh, ((((str l)[1]'hh).toNat : Int) == 45) = tm := by
    intro hh
    rw [← htm, Bool.eq_iff_iff, beq_iff_eq, decide_eq_true_iff]
    have := h1 hh
    exact ⟨fun h => this.1 (by omega), fun h => by have := this.2 h; omega⟩
  have HX : Hid (expI sg DD = if tm = true then -(magI DD : Int) else (magI DD : Int)) := Lib.hid (by
    unfold expI
    by_cases hc : sg = [45]
    · rw [if_pos hc, if_pos (by rw [← htm]; exact decide_eq_true hc)]
    · rw [if_neg hc, if_neg (by rw [← htm, decide_eq_false hc]; simp)])
  have hm := magI_le DD h.2.2.2.2
  have HM : Hid (magI DD = if (dropZ DD).length < 6 then dval (dropZ DD) else 100000) := Lib.hid rfl
  have htl : (str (dropZ DD)).size = (dropZ DD).length := strlen _
  have htle : (dropZ DD).length ≤ 100 := by
    have h1 := dropZ_len DD
    have h2 := congrArg List.length hl0
    simp only [List.length_cons, List.length_append] at h2
    omega
  have HZ := Lib.hid (fun W hP hE => implReadZ (str (dropZ DD)) W (by omega) hP hE)
  have h48 : ∀ a r, dropZ DD = a :: r → a ≠ 48 := fun a r h => dropZ_head h
  have HRZ : Hid ((dropZ DD).length < 6 → (dropZ DD = [] ∧ readZ (str (dropZ DD)) = none ∧ dval (dropZ DD) = 0) ∨ readZ (str (dropZ DD)) = some (dval (dropZ DD) : Int)) := Lib.hid (fun hlt => by
    by_cases he : dropZ DD = []
    · rw [he]; exact .inl ⟨rfl, readZ_empty, rfl⟩
    · exact .inr (readZ_digits hdz (by omega) h48 he))
  have HZ0 := Lib.hid (fun W hP hE => implReadZ ((⟨#[48]⟩ : ByteArray) ++ str (dropZ DD)) W (by rw [ByteArray.size_append, htl]; have : (⟨#[48]⟩ : ByteArray).size = 1 := rfl; omega) hP hE)
  have HZN : Hid (dropZ DD = [] → readZ ((⟨#[48]⟩ : ByteArray) ++ str (dropZ DD)) = some 0) := Lib.hid (fun he => by
    rw [he, show ((⟨#[48]⟩ : ByteArray) ++ str []) = str [48] by apply ByteArray.ext; simp [str]]
    exact readZ_nought)
  have HP := Lib.hid hP
  have HE := Lib.hid hE
  obtain ⟨mg, hmg⟩ : ∃ mg, magI DD = mg := ⟨_, rfl⟩
  rw [hmg] at HX HM hm
  obtain ⟨T, hT⟩ : ∃ T, dropZ DD = T := ⟨_, rfl⟩
  rw [hT] at HTR2 HM htl htle HZ HRZ HZ0 HZN
  obtain ⟨t, ht⟩ : ∃ t, str T = t := ⟨_, rfl⟩
  rw [ht] at HTR2 htl HZ HRZ HZ0 HZN
  clear h1
  generalize str l = s at hne hsz hcut hq hlt1 ⊢
  have hsl : 2 ≤ s.size := by omega
  have hsm : s.size ≤ 100 := by omega
  have htz : t.size ≤ 100 := by omega
  obtain ⟨xr, hxr⟩ : ∃ xr, expI sg DD = xr := ⟨_, rfl⟩
  rw [hxr] at HX ⊢
  clear hxr ht hT hmg hdz h48 hP hE htm HTR h hl0 hsz hl2 hl
  go_enter Tryz.func84, Tryz.ntmps84
  go_wp2_with fail
  try rw [hcut]
  refine (HTR2.out w).mono ?_
  rintro e w1 ⟨rfl, hb1⟩
  have HP1 : Hid (Pow10 w1) := Lib.hid (HP.out.below hb1 (Nat.le_refl _))
  have HE1 : Hid (Errs w1) := Lib.hid (HE.out.below hb1 (Nat.le_refl _))
  have hb1s := hb1.size
  by_cases hlt : T.length < 6
  · have hq6 : (t.size : Int) < 6 := by omega
    have HV := Lib.hid (HRZ.out hlt)
    have HMV := Lib.hid (HM.out.trans (if_pos hlt))
    have hdl : dval T ≤ 100000 := by rw [← HMV.out]; exact hm
    clear hlt HRZ HM
    go_wp2_with fail
    refine (HZ0.out w1 HP1.out HE1.out).mono ?_
    rintro e w2 ⟨rfl, hb2⟩
    have hb2' : Below w.heap.size w w2 := hb1.trans (hb2.mono hb1s)
    have HP2 : Hid (Pow10 w2) := Lib.hid (HP.out.below hb2' (Nat.le_refl _))
    have HE2 : Hid (Errs w2) := Lib.hid (HE.out.below hb2' (Nat.le_refl _))
    have hr2 := readZ_range ((⟨#[48]⟩ : ByteArray) ++ t)
    have hb2s := hb2'.size
    rcases HV.out with ⟨hT0, hz, hd0⟩ | hz
    · have HN := Lib.hid (HZN.out hT0)
      rw [HN.out]
      have HM0 : Hid (mg = 0) := Lib.hid (HMV.out.trans hd0)
      rw [hz] at HZ
      clear hT0 hz hd0 HV HMV HZN HZ0 hr2 hdl
      go_wp2_with fail
      refine (HZ.out w2 HP2.out HE2.out).mono ?_
      rintro e w3 ⟨rfl, hb3⟩
      have hb3' : Below w.heap.size w w3 := hb2'.trans (hb3.mono hb2s)
      cases tm with
      | true =>
        go_wp2_with fail
        go_ret
        exact ⟨ret_num (by rw [HX.out, HM0.out]; rfl), hb3'⟩
      | false =>
        go_wp2_with fail
        go_ret
        exact ⟨ret_num (by rw [HX.out, HM0.out]; rfl), hb3'⟩
    · obtain ⟨z0, hz0⟩ : ∃ z0, (readZ ((⟨#[48]⟩ : ByteArray) ++ t)).getD 0 = z0 := ⟨_, rfl⟩
      obtain ⟨z1, hz1⟩ : ∃ z1, (readZ ((⟨#[48]⟩ : ByteArray) ++ t)).isSome = z1 := ⟨_, rfl⟩
      rw [hz0, hz1]
      rw [hz] at HZ
      obtain ⟨dv, hdv⟩ : ∃ dv, dval T = dv := ⟨_, rfl⟩
      rw [hdv] at HZ HMV hdl
      clear hz HV hz0 hz1 hdv HZN HZ0 hr2
      go_wp2_with fail
      refine (HZ.out w2 HP2.out HE2.out).mono ?_
      rintro e w3 ⟨rfl, hb3⟩
      have hb3' : Below w.heap.size w w3 := hb2'.trans (hb3.mono hb2s)
      cases tm with
      | true =>
        go_wp2_with fail
        go_ret
        exact ⟨ret_num (by rw [HX.out, HMV.out]; first | rfl | simp), hb3'⟩
      | false =>
        go_wp2_with fail
        go_ret
        exact ⟨ret_num (by rw [HX.out, HMV.out]; rfl), hb3'⟩
  · have hq6 : ¬ (t.size : Int) < 6 := by omega
    have HMV := Lib.hid (HM.out.trans (if_neg hlt))
    clear hlt HRZ HM
    cases tm with
    | true =>
      go_wp2_with fail
      go_ret
      exact ⟨ret_num (by rw [HX.out, HMV.out]; rfl), hb1⟩
    | false =>
      go_wp2_with fail
      go_ret
      exact ⟨ret_num (by rw [HX.out, HMV.out]; rfl), hb1⟩
end Go.Proofs.YtbfddabljkoapaaGreatDoor

/-
  The program's ReadNum, where there is a number.
-/
namespace Go.Proofs.YtbfddabljkoapaaGreatDoor
open Go.RowKit
set_option linter.unusedVariables false
set_option linter.unusedSimpArgs false
set_option maxRecDepth 100000

/-- A value and a place are handed back. -/
def RetI (v : V) (z : Int) (w : World) (r : Ending) (w' : World) : Prop := r = .returned (.tuple #[v.agg none 0, .int .i64 z]) ∧ Below w.heap.size w w'
theorem ext_strI {s : ByteArray} {i j : Nat} (h : i ≤ j) : s.extract i j = str (piece s i (j - i)) := by
  apply ba_ext
  have := extract_piece s i (j - i)
  rw [show i + (j - i) = j by omega] at this
  rw [this]
  simp [str]
theorem str_joinI (a b : List UInt8) : str a ++ str b = str (a ++ b) := by
  apply ByteArray.ext
  apply Array.ext'
  simp [str]
theorem str_data (l : List UInt8) : (str l).data.toList = l := by simp [str]
set_option maxHeartbeats 16000000 in
theorem implReadNum_in (s : ByteArray) (i : Nat) (w : World) (hs : s.size ≤ 1048576) (hi : i < s.size) (hr : runN s (fAt s i) ≠ fAt s i) (hP : Pow10 w) (hE : Errs w) :
    Calls Tryz.prog 37 #[.string s, .int .i64 i] w (RetI (rdV (rnP s i)) (rdE (rnP s i)) w) := by
  have HNUM := Lib.hid (fun W => (implNumber s i W hs (by omega)).mono fun e w' h => (⟨h.2.2 (by rw [fAtE_lt hi]; exact hr), h.1⟩ : _ ∧ w' = W))
  rw [fAtE_lt hi] at HNUM
  obtain ⟨f, hf⟩ : ∃ f, fAt s i = f := ⟨_, rfl⟩
  have hfl := fAt_le hi
  rw [hf] at hr hfl HNUM
  obtain ⟨a, ha⟩ : ∃ a, wholeAt s f = a := ⟨_, rfl⟩
  have hal := wholeAt_le hfl.2.2 hr
  rw [ha] at hal HNUM
  obtain ⟨b, hb⟩ : ∃ b, fracN s a = b := ⟨_, rfl⟩
  have hbl := fracN_le hal.2.2
  rw [hb] at hbl HNUM
  obtain ⟨d, hd⟩ : ∃ d, expN s b = d := ⟨_, rfl⟩
  have hdl := expN_le hbl.2
  rw [hd] at hdl HNUM
  have hRN := rnP_at hi hf hr ha hb hd
  have hD := dgs_dig hfl.2.2 hr ha hb
  have hDl := dgs_len (s := s) (f := f) (a := a) (b := b) (by omega) hal.2.2 hbl.2
  have HDD : Hid (dgs s f a b = piece s f (a - f) ++ (if a < b then piece s (a + 1) (b - (a + 1)) else [])) := Lib.hid rfl
  have hcs := cut_sign (s := s) (i := i) (a := a) hi (by omega) (by rw [hf]; omega)
  rw [hf] at hcs
  have hcp := cut_point hal.2.2 hb
  obtain ⟨D, hDe⟩ : ∃ D, dgs s f a b = D := ⟨_, rfl⟩
  have hnone := rnO_none (s := s) (i := i) (f := f) (a := a) (b := b) (d := d)
  have hsome := fun n => rnO_some (s := s) (i := i) (f := f) (a := a) (b := b) (d := d) (n := n)
  rw [hDe] at hD hDl HDD hnone
  obtain ⟨v, hv⟩ : ∃ v, rdV (rnP s i) = v := ⟨_, rfl⟩
  obtain ⟨z, hz⟩ : ∃ z, rdE (rnP s i) = z := ⟨_, rfl⟩
  rw [hRN] at hv hz
  rw [hRN, hv, hz]
  have HB0 := Lib.hid (Blk.new w 43 #[.int .i64 0, .int .i64 0, .int .i64 0, .string ⟨#[]⟩, .slice none 0 0])
  have Hb0 : Hid (Below w.heap.size w (w.alloc (.cells #[.int .i64 0, .int .i64 0, .int .i64 0, .string ⟨#[]⟩, .slice none 0 0] 43))) := Lib.hid ((Below.refl _ w).alloc (Nat.le_refl _) _)
  obtain ⟨w0, hw0⟩ : ∃ w0, w.alloc (.cells #[.int .i64 0, .int .i64 0, .int .i64 0, .string ⟨#[]⟩, .slice none 0 0] 43) = w0 := ⟨_, rfl⟩
  rw [hw0] at HB0 Hb0
  have HW0 := Lib.hid hw0
  have HP0 : Hid (Pow10 w0) := Lib.hid (hP.below Hb0.out (Nat.le_refl _))
  have HE0 : Hid (Errs w0) := Lib.hid (hE.below Hb0.out (Nat.le_refl _))
  have hle1 : decide (i ≤ s.size) = true := decide_eq_true (by omega)
  have hle2 : decide ((i : Int) ≤ (s.size : Int)) = true := decide_eq_true (by omega)
  clear hw0 hP hE
  by_cases h60 : 60 < d - i
  · have hq60 : (60 : Int) < (d : Int) - i := by omega
    rw [rnO_far h60] at hv hz
    have HV : Hid (v = V.nought) := Lib.hid hv.symm
    have HZ : Hid (z = -1) := Lib.hid hz.symm
    obtain ⟨q0, q1, q2, q3, q4⟩ := HB0.out.five
    have f0 := HB0.out.frozen 0
    have f1 := HB0.out.frozen 1
    have f2 := HB0.out.frozen 2
    have f3 := HB0.out.frozen 3
    have f4 := HB0.out.frozen 4
    clear hv hz h60 hnone hsome hDe hRN hd hb ha hf hr hD hDl hcs hcp
    go_enter Tryz.func37, Tryz.ntmps37
    go_upto_region 3 with (go_at_call 56; go_in)
    rw [HW0.out]
    go_wp2_with fail
    refine (HNUM.out _).mono ?_
    rintro e w1 ⟨rfl, rfl⟩
    go_wp2_with fail
    refine bodyPost_ret (v := .tuple #[.agg #[.int .i64 0, .int .i64 0, .int .i64 0, .string ⟨#[]⟩, .slice none 0 0], .int .i64 (-1)]) (by simp [results, Tryz.results37, go_sem, q0, q1, q2, q3, q4]) rfl ⟨by rw [HV.out, HZ.out]; rfl, ?_⟩
    repeat (first | exact Hb0.out | (refine Below.setCell ?_ (by simp) _))
  · have hq60 : ¬ (60 : Int) < (d : Int) - i := by omega
    have HREAD := Lib.hid (fun W hP hE => implReadZ (s.extract i d) W (by rw [ByteArray.size_extract]; omega) hP hE)
    have hx1 : (0 : Int) ≤ (i : Int) ∧ (i : Int) ≤ (d : Int) ∧ (d : Int) ≤ (s.size : Int) := by omega
    obtain ⟨hx1, hx2, hx3⟩ := hx1
    have hrz := readZ_range (s.extract i d)
    cases hrd : readZ (s.extract i d) with
    | some n =>
      rw [hsome n h60 hrd] at hv hz
      have HV : Hid (v = V.int n) := Lib.hid hv.symm
      have HZ : Hid (z = d) := Lib.hid hz.symm
      rw [hrd] at HREAD hrz
      clear hv hz h60 hnone hsome hDe hRN hd hb ha hf hr hD hDl hcs hcp hrd
      go_enter Tryz.func37, Tryz.ntmps37
      go_upto_region 3 with (go_at_call 56; go_in)
      rw [HW0.out]
      go_wp2_with fail
      refine (HNUM.out _).mono ?_
      rintro e w1 ⟨rfl, rfl⟩
      go_wp2_with fail
      refine (HREAD.out _ HP0.out HE0.out).mono ?_
      rintro r w2 ⟨rfl, hb2⟩
      have B2 := HB0.out.below hb2 HB0.out.lt
      have b2 := Hb0.out.trans (hb2.mono Hb0.out.size)
      obtain ⟨q0, q1, q2, q3, q4⟩ := B2.five
      have f0 := B2.frozen 0
      have f1 := B2.frozen 1
      have f2 := B2.frozen 2
      have f3 := B2.frozen 3
      have f4 := B2.frozen 4
      have HB2 := Lib.hid b2
      clear hb2 B2 b2
      go_wp2_with fail
      refine bodyPost_ret (v := .tuple #[.agg #[.int .i64 3, .int .i64 n, .int .i64 0, .string ⟨#[]⟩, .slice none 0 0], .int .i64 d]) (by simp [results, Tryz.results37, go_sem, q0, q1, q2, q3, q4]) rfl ⟨by rw [HV.out, HZ.out]; rfl, ?_⟩
      repeat (first | exact HB2.out | (refine Below.setCell ?_ (by simp) _))
    | none =>
      have hno := hnone h60 hrd
      rw [hno] at hv hz
      rw [hrd] at HREAD hrz
      obtain ⟨ex, hex⟩ : ∃ ex, ExpIs (piece s b (d - b)) ex ∧ ∀ W, Pow10 W → Errs W → Calls Tryz.prog 84 #[.string (str (piece s b (d - b)))] W fun e w' => e = .returned (.int .i64 ex) ∧ Below W.heap.size W w' := by
        by_cases hbd : b < d
        · obtain ⟨x, sg, DD, h⟩ := exp_shape hbl.2 hd hbd
          exact ⟨_, .inr ⟨x, sg, DD, h, rfl⟩, fun W hP hE => implExpOf _ sg DD x W h (by rw [piece_len _ _ _ (by omega)]; omega) hP hE⟩
        · have : d - b = 0 := by omega
          rw [this, piece_zero]
          exact ⟨0, .inl ⟨rfl, rfl⟩, fun W _ _ => (implExpOf_none W).mono fun e w' h => ⟨h.1, h.2 ▸ Below.refl _ _⟩⟩
      have hexr := expIs_range hex.1
      have hDn : D.length ≤ 61 := by omega
      rw [numG_impl hex.1 (by omega) (by omega)] at hv hz
      have HEX := Lib.hid hex.2
      have hxp : s.extract b d = str (piece s b (d - b)) := ext_strI (by omega)
      obtain ⟨P, hP'⟩ : ∃ P, str (piece s b (d - b)) = P := ⟨_, rfl⟩
      rw [hP'] at HEX hxp
      have HXP := Lib.hid hxp
      have hL1 := dropZ_len D
      have hT1 : (numT D).length ≤ (dropZ D).length := cutZ_len _
      have HCP : Hid (∀ W, Calls Tryz.prog 80 #[.string (s.extract i a), .string ⟨#[45]⟩] W fun e w' => e = .returned (.tuple #[.string (str (piece s f (a - f))), .bool (decide (i < f))]) ∧ w' = W) := Lib.hid (fun W => by
        have h := Tryz.strings_CutPrefix (s.extract i a) ⟨#[45]⟩ W
        rw [ext_strI (s := s) (i := i) (j := a) (by omega)] at h ⊢
        rw [str_data, show (⟨#[45]⟩ : ByteArray).data.toList = [45] from rfl, hcs.1, hcs.2] at h
        exact h)
      obtain ⟨Y, hY⟩ : ∃ Y, (if a < b then piece s (a + 1) (b - (a + 1)) else []) = Y := ⟨_, rfl⟩
      rw [hY] at HDD hcp
      have HTP : Hid (∀ W, Calls Tryz.prog 82 #[.string (s.extract a b), .string ⟨#[46]⟩] W fun e w' => e = .returned (.string (str Y)) ∧ w' = W) := Lib.hid (fun W => by
        have h := Tryz.strings_TrimPrefix (s.extract a b) ⟨#[46]⟩ W
        rw [ext_strI (s := s) (i := a) (j := b) (by omega)] at h ⊢
        rw [str_data, show (⟨#[46]⟩ : ByteArray).data.toList = [46] from rfl, hcp] at h
        exact h)
      have HJ : Hid (str (piece s f (a - f)) ++ str Y = str D) := Lib.hid (by rw [str_joinI, HDD.out])
      have HTL : Hid (∀ W, Calls Tryz.prog 81 #[.string (str (piece s f (a - f)) ++ str Y), .string ⟨#[48]⟩] W fun e w' => e = .returned (.string (str (dropZ D))) ∧ w' = W) := Lib.hid (fun W => by
        have h := Tryz.strings_TrimLeft_byte (str D) 48 (by decide) W
        rw [str_data] at h
        rw [HJ.out]
        exact h)
      have HTR : Hid (∀ W, Calls Tryz.prog 83 #[.string (str (dropZ D)), .string ⟨#[48]⟩] W fun e w' => e = .returned (.string (str (numT D))) ∧ w' = W) := Lib.hid (fun W => by
        have h := Tryz.strings_TrimRight_one (str (dropZ D)) 48 (by decide) W (by rw [strlen]; omega)
        rw [str_data] at h
        exact h)
      have hsX : (str (piece s f (a - f))).size ≤ 100 := by rw [strlen, piece_len _ _ _ (by omega)]; omega
      have hsY : (str Y).size ≤ 100 := by
        rw [strlen, ← hY]
        split
        · rw [piece_len _ _ _ (by omega)]; omega
        · simp
      have hsL : (str (dropZ D)).size = (dropZ D).length := strlen _
      have hsT : (str (numT D)).size = (numT D).length := strlen _
      have HRS : Hid ((numT D).length ≤ 18 → ∀ W, Pow10 W → Errs W → Calls Tryz.prog 19 #[.string (str (numT D))] W fun e w' => (∃ okk, e = .returned (.tuple #[.int .i64 (dval (numT D) : Nat), .bool okk])) ∧ Below W.heap.size W w') := Lib.hid (fun h18 W hP hE => by
        have h := implReadZ (str (numT D)) W (by rw [strlen]; omega) hP hE
        have hd1 : ∀ x ∈ numT D, isDig x := fun x hx => hD x (dropZ_mem (cutZ_mem hx))
        by_cases hne : numT D = []
        · rw [hne] at h ⊢
          rw [readZ_empty] at h
          exact h.mono fun e w' h => ⟨⟨false, h.1⟩, h.2⟩
        · have h48 : ∀ x r, numT D = x :: r → x ≠ 48 := by
            intro x r hx
            cases hz : dropZ D with
            | nil =>
              have : numT D = [] := by unfold numT; rw [hz]; rfl
              exact absurd this hne
            | cons y q =>
              have h1 := cutZ_split (dropZ D)
              rw [show cutZ (dropZ D) = x :: r from hx, hz] at h1
              injection h1 with h1 _
              rw [← h1]
              exact dropZ_head hz
          rw [readZ_digits hd1 h18 h48 hne] at h
          exact h.mono fun e w' h => ⟨⟨true, h.1⟩, h.2⟩)
      have hdv : (numT D).length ≤ 18 → dval (numT D) < 1000000000000000000 := fun h18 => by
        have h1 := dval_lt (numT D) (fun x hx => hD x (dropZ_mem (cutZ_mem hx)))
        have h10 : 10 ^ (numT D).length ≤ 10 ^ 18 := Nat.pow_le_pow_right (by omega) h18
        omega
      obtain ⟨dv, hdve⟩ : ∃ dv, dval (numT D) = dv := ⟨_, rfl⟩
      rw [hdve] at HRS hdv hv hz
      obtain ⟨X, hX⟩ : ∃ X, str (piece s f (a - f)) = X := ⟨_, rfl⟩
      rw [hX] at HCP HTL hsX
      obtain ⟨y, hy⟩ : ∃ y, str Y = y := ⟨_, rfl⟩
      rw [hy] at HTP HTL hsY
      obtain ⟨L, hL⟩ : ∃ L, str (dropZ D) = L := ⟨_, rfl⟩
      rw [hL] at HTL HTR hsL
      obtain ⟨T, hT⟩ : ∃ T, str (numT D) = T := ⟨_, rfl⟩
      rw [hT] at HTR HRS hsT
      rw [← hsL, ← hsT] at hT1
      rw [← hsL] at hL1
      rw [← hsT] at HRS hdv
      rw [← hsL, ← hsT] at hv hz
      obtain ⟨tif, htif⟩ : ∃ tif, decide (i < f) = tif := ⟨_, rfl⟩
      rw [htif] at HCP hv hz
      have hfl3 : b - (a + 1) ≤ 61 := by omega
      have HFL : Hid (max (0 : Int) ((b : Int) - a - 1) = ((b - (a + 1) : Nat) : Int)) := Lib.hid (by omega)
      have hxa : (i : Int) ≤ (a : Int) ∧ (a : Int) ≤ (s.size : Int) ∧ (a : Int) ≤ (b : Int) ∧ (b : Int) ≤ (s.size : Int) ∧ (b : Int) ≤ (d : Int) ∧ (0 : Int) ≤ (a : Int) ∧ (0 : Int) ≤ (b : Int) := by omega
      obtain ⟨x1, x2, x3, x4, x5, x6, x7⟩ := hxa
      clear h60 hnone hsome hDe hRN hd hb ha hf hr hD hDl hcs hcp hrd hno hex hxp hP' hY HDD HJ hX hy hL hT hsL hsT hdve htif
      go_enter Tryz.func37, Tryz.ntmps37
      go_upto_region 3 with (go_at_call 56; go_in)
      rw [HW0.out]
      go_wp2_with fail
      refine (HNUM.out _).mono ?_
      rintro e w1 ⟨rfl, rfl⟩
      go_wp2_with fail
      refine (HREAD.out _ HP0.out HE0.out).mono ?_
      rintro r w2 ⟨rfl, hb2⟩
      have b2 := Hb0.out.trans (hb2.mono Hb0.out.size)
      have HB2 := Lib.hid (HB0.out.below hb2 HB0.out.lt)
      have Hb2 := Lib.hid b2
      have HP2 : Hid (Pow10 w2) := Lib.hid (HP0.out.below hb2 (Nat.le_refl _))
      have HE2 : Hid (Errs w2) := Lib.hid (HE0.out.below hb2 (Nat.le_refl _))
      clear hb2 b2
      go_wp2_with fail
      refine (HCP.out _).mono ?_
      rintro r w3 ⟨rfl, rfl⟩
      go_wp2_with fail
      refine (HTP.out _).mono ?_
      rintro r w4 ⟨rfl, rfl⟩
      go_wp2_with fail
      refine (HTL.out _).mono ?_
      rintro r w5 ⟨rfl, rfl⟩
      go_wp2_with fail
      refine (HTR.out _).mono ?_
      rintro r w6 ⟨rfl, rfl⟩
      go_wp2_with fail
      rw [HXP.out]
      refine (HEX.out _ HP2.out HE2.out).mono ?_
      rintro r w7 ⟨rfl, hb7⟩
      have b7 := Hb2.out.trans (hb7.mono Hb2.out.size)
      have HB7 := Lib.hid (HB2.out.below hb7 HB2.out.lt)
      have Hb7 := Lib.hid b7
      have HP7 : Hid (Pow10 w7) := Lib.hid (HP2.out.below hb7 (Nat.le_refl _))
      have HE7 : Hid (Errs w7) := Lib.hid (HE2.out.below hb7 (Nat.le_refl _))
      clear hb7 b7 HCP HTP HTL HTR HREAD HNUM
      go_upto_region 13 with fail
      rw [HFL.out]
      obtain ⟨fl, hfl4⟩ : ∃ fl, b - (a + 1) = fl := ⟨_, rfl⟩
      rw [hfl4] at hv hz hfl3 ⊢
      clear HFL hfl4
      have hL61 : L.size ≤ 61 := by omega
      have hT61 : T.size ≤ 61 := by omega
      have hNR := fun h18 => (sgnV_range (neg := tif) (m := dv) (hdv h18)).1
      have hNS := fun h18 => (sgnV_range (neg := tif) (m := dv) (hdv h18)).2
      by_cases h18 : 18 < T.size
      · rw [if_pos h18] at hv hz
        have HV : Hid (v = V.nought) := Lib.hid hv.symm
        have HZ : Hid (z = -1) := Lib.hid hz.symm
        have hq18 : (18 : Int) < (T.size : Int) := by omega
        obtain ⟨q0, q1, q2, q3, q4⟩ := HB7.out.five
        have f0 := HB7.out.frozen 0
        have f1 := HB7.out.frozen 1
        have f2 := HB7.out.frozen 2
        have f3 := HB7.out.frozen 3
        have f4 := HB7.out.frozen 4
        clear hv hz h18 HRS hNR hNS hdv
        go_wp2_with fail
        refine bodyPost_ret (v := .tuple #[.agg #[.int .i64 0, .int .i64 0, .int .i64 0, .string ⟨#[]⟩, .slice none 0 0], .int .i64 (-1)]) (by simp [results, Tryz.results37, go_sem, q0, q1, q2, q3, q4]) rfl ⟨by rw [HV.out, HZ.out]; rfl, ?_⟩
        repeat (first | exact Hb7.out | (refine Below.setCell ?_ (by simp) _))
      · rw [if_neg h18] at hv hz
        have hq18 : ¬ (18 : Int) < (T.size : Int) := by omega
        have hd18 := hdv (by omega)
        have hNR1 := hNR (by omega)
        have hNS1 := hNS (by omega)
        have HR2 := Lib.hid (HRS.out (by omega))
        have HN := Lib.hid (fun W => implNorm (sgnV tif dv) (ex - (fl : Int) + (L.size : Int) - (T.size : Int)) W hNR1)
        rw [(rd_norm).1] at hv
        rw [(rd_norm).2] at hz
        unfold NormRet at HN
        rw [hv] at HN
        obtain ⟨ok, hok⟩ : ∃ ok, normB (sgnV tif dv) (ex - (fl : Int) + (L.size : Int) - (T.size : Int)) = ok := ⟨_, rfl⟩
        rw [hok] at HN hz
        have HVN : Hid (ok = false → v = V.nought) := Lib.hid (fun h => by
          rw [h] at hok
          rw [← hv]
          unfold normB at hok
          unfold normD
          cases hh : normR (sgnV tif dv) (ex - (fl : Int) + (L.size : Int) - (T.size : Int)) with
          | none => rfl
          | some x => rw [hh] at hok; cases hok)
        have HZ := Lib.hid hz
        unfold V.agg at HN
        clear hv hz h18 HRS hNR hNS hdv hok hNR1
        go_wp2_with fail
        refine (HR2.out _ HP7.out HE7.out).mono ?_
        rintro r w8 ⟨⟨okk, rfl⟩, hb8⟩
        have b8 := Hb7.out.trans (hb8.mono Hb7.out.size)
        have HB8 := Lib.hid (HB7.out.below hb8 HB7.out.lt)
        have Hb8 := Lib.hid b8
        clear hb8 b8 HR2
        go_upto_if 97 with fail
        go_cut [15] from 19 (fun y wx => y = .int .i64 (sgnV tif dv) ∧ wx = w8)
        case first =>
          cases tif with
          | true =>
            go_wp2_with fail
            go_meet
            case rel => exact ⟨rfl, rfl⟩
          | false =>
            go_wp2_with fail
            go_meet
            case rel => exact ⟨rfl, rfl⟩
        case rest =>
        obtain ⟨rfl, rfl⟩ := hcut
        obtain ⟨sv, hsv⟩ : ∃ sv, sgnV tif dv = sv := ⟨_, rfl⟩
        rw [hsv] at HN hNS1 ⊢
        obtain ⟨ee, hee⟩ : ∃ ee, ex - (fl : Int) + (L.size : Int) - (T.size : Int) = ee := ⟨_, rfl⟩
        rw [hee] at HN ⊢
        clear hsv hee
        go_wp2_with fail
        refine (HN.out _).mono ?_
        rintro r w9 ⟨rfl, hb9⟩
        go_upto_region 19 with fail
        have B1 := (HB8.out.below hb9 HB8.out.lt).alloc (.cells #[.int .i64 v.k, .int .i64 v.n, .int .i64 v.e, .string v.s, .slice none v.kids.length 0] 43)
        have Bv := Blk.new w9 43 #[.int .i64 v.k, .int .i64 v.n, .int .i64 v.e, .string v.s, .slice none v.kids.length 0]
        have b1 := (Hb8.out.trans (hb9.mono Hb8.out.size)).alloc (Nat.le_trans Hb8.out.size hb9.size) (.cells #[.int .i64 v.k, .int .i64 v.n, .int .i64 v.e, .string v.s, .slice none v.kids.length 0] 43)
        have hne : w9.heap.size ≠ w.heap.size := by have := HB8.out.lt; have := hb9.size; omega
        obtain ⟨wz, hwz⟩ : ∃ wz, w9.alloc (.cells #[.int .i64 v.k, .int .i64 v.n, .int .i64 v.e, .string v.s, .slice none v.kids.length 0] 43) = wz := ⟨_, rfl⟩
        rw [hwz] at B1 Bv b1 ⊢
        obtain ⟨q0, q1, q2, q3, q4⟩ := B1.five
        obtain ⟨p0, p1, p2, p3, p4⟩ := Bv.five
        have f0 := B1.frozen 0
        have f1 := B1.frozen 1
        have f2 := B1.frozen 2
        have f3 := B1.frozen 3
        have f4 := B1.frozen 4
        have HBZ := Lib.hid b1
        clear hb9 B1 b1 hwz Bv
        cases ok with
        | false =>
          have HVV := Lib.hid (HVN.out rfl)
          go_wp2_with fail
          refine bodyPost_ret (v := .tuple #[.agg #[.int .i64 0, .int .i64 0, .int .i64 0, .string ⟨#[]⟩, .slice none 0 0], .int .i64 (-1)]) (by simp [results, Tryz.results37, go_sem, q0, q1, q2, q3, q4]) rfl ⟨by rw [HVV.out, ← HZ.out]; rfl, ?_⟩
          repeat (first | exact HBZ.out | (refine Below.setCell ?_ (by simp) _))
        | true =>
          go_wp2_with fail
          refine bodyPost_ret (v := .tuple #[.agg #[.int .i64 v.k, .int .i64 v.n, .int .i64 v.e, .string v.s, .slice none v.kids.length 0], .int .i64 d]) (by simp [results, Tryz.results37, go_sem, q0, q1, q2, q3, q4]) rfl ⟨by rw [← HZ.out]; rfl, ?_⟩
          repeat (first | exact HBZ.out | (refine Below.setCell ?_ (by simp) _))
end Go.Proofs.YtbfddabljkoapaaGreatDoor

/-
  The program's ReadNum, everywhere.
-/
namespace Go.Proofs.YtbfddabljkoapaaGreatDoor
open Go.RowKit
set_option linter.unusedVariables false
set_option linter.unusedSimpArgs false
set_option maxRecDepth 100000

set_option maxHeartbeats 16000000 in
theorem implReadNum (s : ByteArray) (i : Int) (w : World) (hs : s.size ≤ 1048576) (hP : Pow10 w) (hE : Errs w) :
    Calls Tryz.prog 37 #[.string s, .int .i64 i] w (RetI (rdV (rnP s i)) (rdE (rnP s i)) w) := by
  have HB0 := Lib.hid (Blk.new w 43 #[.int .i64 0, .int .i64 0, .int .i64 0, .string ⟨#[]⟩, .slice none 0 0])
  have Hb0 : Hid (Below w.heap.size w (w.alloc (.cells #[.int .i64 0, .int .i64 0, .int .i64 0, .string ⟨#[]⟩, .slice none 0 0] 43))) := Lib.hid ((Below.refl _ w).alloc (Nat.le_refl _) _)
  obtain ⟨w0, hw0⟩ : ∃ w0, w.alloc (.cells #[.int .i64 0, .int .i64 0, .int .i64 0, .string ⟨#[]⟩, .slice none 0 0] 43) = w0 := ⟨_, rfl⟩
  rw [hw0] at HB0 Hb0
  have HW0 := Lib.hid hw0
  obtain ⟨q0, q1, q2, q3, q4⟩ := HB0.out.five
  have f0 := HB0.out.frozen 0
  have f1 := HB0.out.frozen 1
  have f2 := HB0.out.frozen 2
  have f3 := HB0.out.frozen 3
  have f4 := HB0.out.frozen 4
  clear hw0
  by_cases hin : 0 ≤ i ∧ i ≤ s.size
  · obtain ⟨i, rfl⟩ := Int.eq_ofNat_of_zero_le hin.1
    have hi : i ≤ s.size := by omega
    by_cases hr : runN s (fAtE s i) = fAtE s i
    · have hrn : rnP s i = none := by
        by_cases h : i < s.size
        · exact rnP_no (by rw [← fAtE_lt h]; exact hr)
        · exact rnP_out (by omega)
      rw [hrn]
      have HNUM := Lib.hid (fun W => (implNumber s i W hs hi).mono fun e w' h => (⟨h.2.1 hr, h.1⟩ : _ ∧ w' = W))
      have hle1 : decide (i ≤ s.size) = true := decide_eq_true (by omega)
      have hle2 : decide ((i : Int) ≤ (s.size : Int)) = true := decide_eq_true (by omega)
      clear hr hin hrn
      go_enter Tryz.func37, Tryz.ntmps37
      go_upto_region 3 with (go_at_call 56; go_in)
      rw [HW0.out]
      go_wp2_with fail
      refine (HNUM.out _).mono ?_
      rintro e w1 ⟨rfl, rfl⟩
      go_wp2_with fail
      refine bodyPost_ret (v := .tuple #[.agg #[.int .i64 0, .int .i64 0, .int .i64 0, .string ⟨#[]⟩, .slice none 0 0], .int .i64 (-1)]) (by simp [results, Tryz.results37, go_sem, q0, q1, q2, q3, q4]) rfl ⟨rfl, ?_⟩
      repeat (first | exact Hb0.out | (refine Below.setCell ?_ (by simp) _))
    · have hlt : i < s.size := by
        refine Classical.byContradiction fun h => hr ?_
        have : fAtE s i = i := if_neg h
        rw [this]
        exact runN_stop (fun h2 => h h2.1)
      exact implReadNum_in s i w hs hlt (by rw [← fAtE_lt hlt]; exact hr) hP hE
  · rw [rnP_out (by omega)]
    rcases (show i < 0 ∨ (¬ i < 0 ∧ (s.size : Int) < i) by omega) with h | ⟨h, h2⟩
    · have q : decide (0 ≤ i) = false := decide_eq_false (by omega)
      clear hin
      go_enter Tryz.func37, Tryz.ntmps37
      go_upto_region 2 with (go_at_call 56; go_in)
      rw [HW0.out]
      go_wp2_with fail
      refine bodyPost_ret (v := .tuple #[.agg #[.int .i64 0, .int .i64 0, .int .i64 0, .string ⟨#[]⟩, .slice none 0 0], .int .i64 (-1)]) (by simp [results, Tryz.results37, go_sem, q0, q1, q2, q3, q4]) rfl ⟨rfl, ?_⟩
      repeat (first | exact Hb0.out | (refine Below.setCell ?_ (by simp) _))
    · have q : decide (0 ≤ i) = true := decide_eq_true (by omega)
      have q2' : decide (i ≤ (s.size : Int)) = false := decide_eq_false (by omega)
      clear hin
      go_enter Tryz.func37, Tryz.ntmps37
      go_upto_region 2 with (go_at_call 56; go_in)
      rw [HW0.out]
      go_wp2_with fail
      refine bodyPost_ret (v := .tuple #[.agg #[.int .i64 0, .int .i64 0, .int .i64 0, .string ⟨#[]⟩, .slice none 0 0], .int .i64 (-1)]) (by simp [results, Tryz.results37, go_sem, q0, q1, q2, q3, q4]) rfl ⟨rfl, ?_⟩
      repeat (first | exact Hb0.out | (refine Below.setCell ?_ (by simp) _))
end Go.Proofs.YtbfddabljkoapaaGreatDoor

/-
  The reference's runs of digits, and where a number's parts end.
-/
namespace Go.Proofs.YtbfddabljkoapaaGreatDoor
open Go.RowKit
set_option linter.unusedVariables false
set_option linter.unusedSimpArgs false
set_option maxRecDepth 100000

theorem dig_cases (c : Nat) : (48 ≤ c ∧ c ≤ 57) ∨ c < 48 ∨ 57 < c := by omega
theorem ge_idx {s : ByteArray} {j : Nat} (h : j < s.size) : s.get! j = s[j] := (get_get! s j h).symm
set_option maxHeartbeats 2000000 in
theorem specRun (s : ByteArray) (i : Nat) (w : World) (hs : s.size ≤ 1048576) (hi : i ≤ s.size) :
    Calls Tryz.prog 128 #[.string s, .int .i64 i] w fun e w' => e = .returned (.int .i64 (runN s i)) ∧ w' = w := by
  go_enter Tryz.func128, Tryz.ntmps128
  go_wp2_with fail
  go_loop [1] (fun k => ∃ j : Nat, j ≤ s.size ∧ k = .int .i64 j ∧ runN s j = runN s i) (fun k => s.size - (intOf k).toNat)
  case atStart => exact ⟨i, hi, rfl, rfl⟩
  case round =>
    obtain ⟨j, hj, rfl, hr⟩ := hrel
    have HR := Lib.hid hr
    clear hr
    by_cases hlt : j < s.size
    · have hu : s[j].toNat < 256 := UInt8.toNat_lt _
      rcases dig_cases s[j].toNat with ⟨h1, h2⟩ | h | h
      · have HN := Lib.hid (runN_step (s := s) hlt (by rw [ge_idx hlt]; exact ⟨h1, h2⟩))
        have q1 : decide ((48 : Int) ≤ (s[j].toNat : Int)) = true := decide_eq_true (by omega)
        have q2 : decide ((s[j].toNat : Int) ≤ 57) = true := decide_eq_true (by omega)
        clear h1 h2
        go_wp2_with go_in
        go_round
        case rel => exact ⟨j + 1, by omega, by go_num, by rw [← HN.out]; exact HR.out⟩
        case measure => simp [intOf]; omega
      · have HN := Lib.hid (runN_stop (s := s) (i := j) (fun hd => by rw [ge_idx hlt] at hd; have := hd.2.1; omega))
        have q1 : decide ((48 : Int) ≤ (s[j].toNat : Int)) = false := decide_eq_false (by omega)
        clear h
        go_wp2_with go_in
        go_ret
        exact ⟨ret_num (by rw [← HR.out, HN.out]), rfl⟩
      · have HN := Lib.hid (runN_stop (s := s) (i := j) (fun hd => by rw [ge_idx hlt] at hd; have := hd.2.2; omega))
        have q1 : decide ((48 : Int) ≤ (s[j].toNat : Int)) = true := decide_eq_true (by omega)
        have q2 : decide ((s[j].toNat : Int) ≤ 57) = false := decide_eq_false (by omega)
        clear h
        go_wp2_with go_in
        go_ret
        exact ⟨ret_num (by rw [← HR.out, HN.out]), rfl⟩
    · have HN := Lib.hid (runN_stop (s := s) (i := j) (fun hd => hlt hd.1))
      go_wp2_with go_in
      go_ret
      exact ⟨ret_num (by rw [← HR.out, HN.out]), rfl⟩
theorem specRunZ (s : ByteArray) (z : Int) (j : Nat) (hz : z = (j : Int)) (w : World) (hs : s.size ≤ 1048576) (hj : j ≤ s.size) :
    Calls Tryz.prog 128 #[.string s, .int .i64 z] w fun e w' => e = .returned (.int .i64 (runN s j)) ∧ w' = w := by
  subst hz; exact specRun s j w hs hj
theorem tup3 {a a' b b' c c' : Int} (h1 : a = a') (h2 : b = b') (h3 : c = c') : Ending.returned (.tuple #[.int .i64 a, .int .i64 b, .int .i64 c]) = Ending.returned (.tuple #[.int .i64 a', .int .i64 b', .int .i64 c']) := by rw [h1, h2, h3]
set_option maxHeartbeats 4000000 in
theorem specEnds_no (s : ByteArray) (f : Nat) (w : World) (hs : s.size ≤ 1048576) (hf : f ≤ s.size) (hr : runN s f = f) :
    Calls Tryz.prog 85 #[.string s, .int .i64 f] w fun e w' => e = .returned (.tuple #[.int .i64 (-1), .int .i64 (-1), .int .i64 (-1)]) ∧ w' = w := by
  have HR := Lib.hid (specRun s f w hs hf)
  rw [hr] at HR
  clear hr
  go_enter Tryz.func85, Tryz.ntmps85
  go_wp2_with fail
  refine HR.out.mono ?_
  rintro e w1 ⟨rfl, rfl⟩
  go_wp2_with fail
  go_ret3
  exact ⟨rfl, rfl⟩
set_option maxHeartbeats 8000000 in
theorem specEnds (s : ByteArray) (f : Nat) (w : World) (hs : s.size ≤ 1048576) (hf : f ≤ s.size) (hr : runN s f ≠ f) :
    Calls Tryz.prog 85 #[.string s, .int .i64 f] w fun e w' => e = .returned (.tuple #[.int .i64 (wholeAt s f), .int .i64 (fracN s (wholeAt s f)), .int .i64 (expN s (fracN s (wholeAt s f)))]) ∧ w' = w := by
  have hge := runN_ge hf
  have hfl : f < s.size := Classical.byContradiction fun h => hr (runN_stop (fun h2 => h h2.1))
  have hal := (wholeAt_le hf hr)
  have HW : Hid (wholeAt s f = if s[f].toNat = 48 then f + 1 else runN s f) := Lib.hid (by unfold wholeAt; rw [ge_idx hfl])
  obtain ⟨a, ha⟩ : ∃ a, wholeAt s f = a := ⟨_, rfl⟩
  have hq : ((runN s f : Int) == (f : Int)) = false := by rw [beq_eq_false_iff_ne]; omega
  rw [ha] at HW hal ⊢
  clear ha
  have hfl2 := fracN_le hal.2.2
  have HF : Hid (fracN s a = if a < s.size ∧ (s.get! a).toNat = 46 ∧ a + 1 < runN s (a + 1) then runN s (a + 1) else a) := Lib.hid rfl
  obtain ⟨b, hb⟩ : ∃ b, fracN s a = b := ⟨_, rfl⟩
  rw [hb] at HF hfl2 ⊢
  clear hb
  have HD : Hid (expN s b = if b < s.size ∧ ((s.get! b).toNat = 101 ∨ (s.get! b).toNat = 69) ∧ expK s b < runN s (expK s b) then runN s (expK s b) else b) := Lib.hid rfl
  have hdl := expN_le hfl2.2
  obtain ⟨d, hd⟩ : ∃ d, expN s b = d := ⟨_, rfl⟩
  rw [hd] at HD hdl ⊢
  clear hd
  have hu : s[f].toNat < 256 := UInt8.toNat_lt _
  go_enter Tryz.func85, Tryz.ntmps85
  go_wp2_with fail
  refine (specRun s f w hs hf).mono ?_
  rintro e w1 ⟨rfl, rfl⟩
  obtain ⟨r, hrr⟩ : ∃ r, runN s f = r := ⟨_, rfl⟩
  rw [hrr] at HW hq hge ⊢
  clear hrr hr
  go_upto_if 20 with fail
  go_cut [7] from 11 (fun z wx => z = .int .i64 a ∧ wx = w1)
  case first =>
    by_cases h48 : s[f].toNat = 48
    · have q : ((s[f].toNat : Int) == 48) = true := by rw [h48]; rfl
      have HA := Lib.hid (HW.out.trans (if_pos h48))
      clear h48
      go_wp2_with fail
      go_meet
      case rel => exact ⟨by rw [HA.out]; go_num, rfl⟩
    · have q : ((s[f].toNat : Int) == 48) = false := by rw [beq_eq_false_iff_ne]; omega
      have HA := Lib.hid (HW.out.trans (if_neg h48))
      clear h48
      go_wp2_with fail
      go_meet
      case rel => exact ⟨by rw [HA.out], rfl⟩
  case rest =>
    obtain ⟨rfl, rfl⟩ := hcut
    clear HW hq hge
    obtain ⟨tb, htb⟩ : ∃ tb : Bool, decide (a < s.size ∧ (s.get! a).toNat = 46 ∧ a + 1 < runN s (a + 1)) = tb := ⟨_, rfl⟩
    have HT := Lib.hid htb
    clear htb
    go_upto_region 7 with fail
    go_cut [42] from 11 (fun z wx => z = .bool tb ∧ wx = wc)
    case first =>
      by_cases h1 : a < s.size
      · have hua : s[a].toNat < 256 := UInt8.toNat_lt _
        by_cases h2 : s[a].toNat = 46
        · have q : ((s[a].toNat : Int) == 46) = true := by rw [h2]; rfl
          have HR := Lib.hid (specRunZ s ((a : Int) + 1) (a + 1) (by omega) wc hs (by omega))
          have hra := runN_ge (s := s) (i := a + 1) (by omega)
          have HE : Hid (decide ((a : Int) + 1 < (runN s (a + 1) : Int)) = tb) := Lib.hid (by
            rw [← HT.out, ge_idx h1]
            exact decide_eq_decide.2 ⟨fun h => ⟨h1, h2, by omega⟩, fun h => by have := h.2.2; omega⟩)
          obtain ⟨r, hr⟩ : ∃ r, runN s (a + 1) = r := ⟨_, rfl⟩
          rw [hr] at HR HE hra
          clear hr h2
          go_wp2_with fail
          refine HR.out.mono ?_
          rintro e w2 ⟨rfl, rfl⟩
          go_wp2_with fail
          go_meet
          case rel => exact ⟨congrArg Value.bool HE.out, rfl⟩
        · have q : ((s[a].toNat : Int) == 46) = false := by rw [beq_eq_false_iff_ne]; omega
          have HE : Hid (false = tb) := Lib.hid (by
            rw [← HT.out, ge_idx h1]
            exact (decide_eq_false (fun h => h2 h.2.1)).symm)
          clear h2
          go_wp2_with fail
          go_meet
          case rel => exact ⟨congrArg Value.bool HE.out, rfl⟩
      · have HE : Hid (false = tb) := Lib.hid (by
          rw [← HT.out]
          exact (decide_eq_false (fun h => h1 h.1)).symm)
        go_wp2_with fail
        go_meet
        case rel => exact ⟨congrArg Value.bool HE.out, rfl⟩
    case rest =>
      obtain ⟨rfl, rfl⟩ := hcut
      go_upto_if 42 with fail
      go_cut [8] from 11 (fun z wx => z = .int .i64 b ∧ wx = wc)
      case first =>
        cases tb with
        | true =>
          have h := of_decide_eq_true HT.out
          have HB := Lib.hid (HF.out.trans (if_pos h))
          have HR := Lib.hid (specRunZ s ((a : Int) + 1) (a + 1) (by omega) wc hs (by omega))
          have hra := runN_ge (s := s) (i := a + 1) (by omega)
          rw [← HB.out] at HR hra
          clear h
          go_wp2_with fail
          refine HR.out.mono ?_
          rintro e w2 ⟨rfl, rfl⟩
          go_wp2_with fail
          go_meet
          case rel => exact ⟨rfl, rfl⟩
        | false =>
          have HB := Lib.hid (HF.out.trans (if_neg (of_decide_eq_false HT.out)))
          go_wp2_with fail
          go_meet
          case rel => exact ⟨by rw [HB.out], rfl⟩
      case rest =>
        obtain ⟨rfl, rfl⟩ := hcut
        clear HF HT
        obtain ⟨te, hte⟩ : ∃ te : Bool, decide (b < s.size ∧ ((s.get! b).toNat = 101 ∨ (s.get! b).toNat = 69)) = te := ⟨_, rfl⟩
        have HT := Lib.hid hte
        clear hte
        go_upto_region 10 with fail
        go_cut [63] from 11 (fun z wx => z = .bool te ∧ wx = wc)
        case first =>
          by_cases h1 : b < s.size
          · have hub : s[b].toNat < 256 := UInt8.toNat_lt _
            rcases (show s[b].toNat = 101 ∨ s[b].toNat = 69 ∨ (s[b].toNat ≠ 101 ∧ s[b].toNat ≠ 69) by omega) with h2 | h2 | ⟨h2, h3⟩
            · have q : ((s[b].toNat : Int) == 101) = true := by rw [h2]; rfl
              have HE : Hid (true = te) := Lib.hid (by rw [← HT.out, ge_idx h1]; exact (decide_eq_true ⟨h1, .inl h2⟩).symm)
              clear h2
              go_wp2_with fail
              go_meet
              case rel => exact ⟨congrArg Value.bool HE.out, rfl⟩
            · have q : ((s[b].toNat : Int) == 101) = false := by rw [h2]; rfl
              have q2 : ((s[b].toNat : Int) == 69) = true := by rw [h2]; rfl
              have HE : Hid (true = te) := Lib.hid (by rw [← HT.out, ge_idx h1]; exact (decide_eq_true ⟨h1, .inr h2⟩).symm)
              clear h2
              go_wp2_with fail
              go_meet
              case rel => exact ⟨congrArg Value.bool HE.out, rfl⟩
            · have q : ((s[b].toNat : Int) == 101) = false := by rw [beq_eq_false_iff_ne]; omega
              have q2 : ((s[b].toNat : Int) == 69) = false := by rw [beq_eq_false_iff_ne]; omega
              have HE : Hid (false = te) := Lib.hid (by rw [← HT.out, ge_idx h1]; exact (decide_eq_false (fun h => h.2.elim h2 h3)).symm)
              clear h2 h3
              go_wp2_with fail
              go_meet
              case rel => exact ⟨congrArg Value.bool HE.out, rfl⟩
          · have HE : Hid (false = te) := Lib.hid (by rw [← HT.out]; exact (decide_eq_false (fun h => h1 h.1)).symm)
            go_wp2_with fail
            go_meet
            case rel => exact ⟨congrArg Value.bool HE.out, rfl⟩
        case rest =>
          obtain ⟨rfl, rfl⟩ := hcut
          go_upto_if 63 with fail
          go_cut [9] from 10 (fun z wx => z = .int .i64 d ∧ wx = wc)
          case first =>
            cases te with
            | false =>
              have HB := Lib.hid (HD.out.trans (if_neg (fun h => of_decide_eq_false HT.out ⟨h.1, h.2.1⟩)))
              go_wp2_with fail
              go_meet
              case rel => exact ⟨by rw [HB.out], rfl⟩
            | true =>
              have h := of_decide_eq_true HT.out
              have hbl : b < s.size := h.1
              have HB : Hid (d = if expK s b < runN s (expK s b) then runN s (expK s b) else b) := Lib.hid (by
                rw [HD.out]
                by_cases h3 : expK s b < runN s (expK s b)
                · rw [if_pos ⟨h.1, h.2, h3⟩, if_pos h3]
                · rw [if_neg (fun h4 => h3 h4.2.2), if_neg h3])
              have HKD : Hid (expK s b = if b + 1 < s.size ∧ ((s.get! (b + 1)).toNat = 43 ∨ (s.get! (b + 1)).toNat = 45) then b + 2 else b + 1) := Lib.hid rfl
              have hkl := expK_le hbl
              obtain ⟨k, hk⟩ : ∃ k, expK s b = k := ⟨_, rfl⟩
              rw [hk] at HB HKD hkl
              have hrk := runN_ge (s := s) (i := k) (by omega)
              have HR := Lib.hid (specRun s k wc hs (by omega))
              clear hk h HD
              obtain ⟨r, hr⟩ : ∃ r, runN s k = r := ⟨_, rfl⟩
              rw [hr] at HB HR hrk
              clear hr
              obtain ⟨tk, htk⟩ : ∃ tk : Bool, decide (b + 1 < s.size ∧ ((s.get! (b + 1)).toNat = 43 ∨ (s.get! (b + 1)).toNat = 45)) = tk := ⟨_, rfl⟩
              have HTK := Lib.hid htk
              clear htk
              go_upto_region 12 with fail
              go_cut [81] from 11 (fun z wx => z = .bool tk ∧ wx = wc)
              case first =>
                by_cases h1 : b + 1 < s.size
                · have hub : s[b + 1].toNat < 256 := UInt8.toNat_lt _
                  have hi1 : (b : Int) + 1 < s.size := by omega
                  rcases (show s[b + 1].toNat = 43 ∨ s[b + 1].toNat = 45 ∨ (s[b + 1].toNat ≠ 43 ∧ s[b + 1].toNat ≠ 45) by omega) with h2 | h2 | ⟨h2, h3⟩
                  · have q : ((s[b + 1].toNat : Int) == 43) = true := by rw [h2]; rfl
                    have HE : Hid (true = tk) := Lib.hid (by rw [← HTK.out, ge_idx h1]; exact (decide_eq_true ⟨h1, .inl h2⟩).symm)
                    clear h2
                    go_wp2_with fail
                    go_meet
                    case rel => exact ⟨congrArg Value.bool HE.out, rfl⟩
                  · have q : ((s[b + 1].toNat : Int) == 43) = false := by rw [h2]; rfl
                    have q2 : ((s[b + 1].toNat : Int) == 45) = true := by rw [h2]; rfl
                    have HE : Hid (true = tk) := Lib.hid (by rw [← HTK.out, ge_idx h1]; exact (decide_eq_true ⟨h1, .inr h2⟩).symm)
                    clear h2
                    go_wp2_with fail
                    go_meet
                    case rel => exact ⟨congrArg Value.bool HE.out, rfl⟩
                  · have q : ((s[b + 1].toNat : Int) == 43) = false := by rw [beq_eq_false_iff_ne]; omega
                    have q2 : ((s[b + 1].toNat : Int) == 45) = false := by rw [beq_eq_false_iff_ne]; omega
                    have HE : Hid (false = tk) := Lib.hid (by rw [← HTK.out, ge_idx h1]; exact (decide_eq_false (fun h => h.2.elim h2 h3)).symm)
                    clear h2 h3
                    go_wp2_with fail
                    go_meet
                    case rel => exact ⟨congrArg Value.bool HE.out, rfl⟩
                · have hi1 : ¬ (b : Int) + 1 < s.size := by omega
                  have HE : Hid (false = tk) := Lib.hid (by rw [← HTK.out]; exact (decide_eq_false (fun h => h1 h.1)).symm)
                  go_wp2_with fail
                  go_meet
                  case rel => exact ⟨congrArg Value.bool HE.out, rfl⟩
              case rest =>
                obtain ⟨rfl, rfl⟩ := hcut
                go_upto_if 81 with fail
                go_cut [10] from 11 (fun z wx => z = .int .i64 k ∧ wx = wc)
                case first =>
                  cases tk with
                  | true =>
                    have HK := Lib.hid (HKD.out.trans (if_pos (of_decide_eq_true HTK.out)))
                    go_wp2_with fail
                    go_meet
                    case rel => exact ⟨by rw [HK.out]; go_num, rfl⟩
                  | false =>
                    have HK := Lib.hid (HKD.out.trans (if_neg (of_decide_eq_false HTK.out)))
                    go_wp2_with fail
                    go_meet
                    case rel => exact ⟨by rw [HK.out]; go_num, rfl⟩
                case rest =>
                  obtain ⟨rfl, rfl⟩ := hcut
                  clear HKD HTK
                  go_wp2_with fail
                  refine HR.out.mono ?_
                  rintro e w2 ⟨rfl, rfl⟩
                  by_cases hkr : k < r
                  · have HB2 := Lib.hid (HB.out.trans (if_pos hkr))
                    have hkr' : (k : Int) < r := by omega
                    clear hkr
                    go_wp2_with fail
                    refine HR.out.mono ?_
                    rintro e w3 ⟨rfl, rfl⟩
                    go_wp2_with fail
                    go_meet
                    case rel => exact ⟨by rw [HB2.out], rfl⟩
                  · have HB2 := Lib.hid (HB.out.trans (if_neg hkr))
                    have hkr' : ¬ (k : Int) < r := by omega
                    clear hkr
                    go_wp2_with fail
                    go_meet
                    case rel => exact ⟨by rw [HB2.out], rfl⟩
          case rest =>
            obtain ⟨rfl, rfl⟩ := hcut
            go_wp2_with fail
            go_ret3
            exact ⟨rfl, rfl⟩
end Go.Proofs.YtbfddabljkoapaaGreatDoor

/-
  The reference's power, and a number made.
-/
namespace Go.Proofs.YtbfddabljkoapaaGreatDoor
open Go.RowKit
set_option linter.unusedVariables false
set_option linter.unusedSimpArgs false
set_option maxRecDepth 100000

theorem fold_step (l : List UInt8) (k : Nat) (h : k < (str l).size) : (l.take (k + 1)).foldl capF 0 = capF ((l.take k).foldl capF 0) (str l)[k] := by
  have hl : k < l.length := by rwa [strlen] at h
  rw [List.take_succ_eq_append_getElem hl, List.foldl_append]
  rfl
theorem sign_step (l : List UInt8) (k : Nat) (h : k < (str l).size) : ((45 : UInt8) ∈ l.take (k + 1)) ↔ ((45 : UInt8) ∈ l.take k ∨ (str l)[k].toNat = 45) := by
  have hl : k < l.length := by rwa [strlen] at h
  rw [List.take_succ_eq_append_getElem hl, List.mem_append, List.mem_singleton]
  show ((45 : UInt8) ∈ List.take k l ∨ 45 = l[k]) ↔ ((45 : UInt8) ∈ List.take k l ∨ l[k].toNat = 45)
  constructor
  · rintro (h | h)
    · exact .inl h
    · exact .inr (by rw [← h]; rfl)
  · rintro (h | h)
    · exact .inl h
    · exact .inr (UInt8.toNat_inj.1 h).symm
set_option maxHeartbeats 4000000 in
theorem specPower (l : List UInt8) (w : World) (hl : l.length ≤ 1000) :
    Calls Tryz.prog 88 #[.string (str l)] w fun e w' => e = .returned (.int .i64 (powS l)) ∧ w' = w := by
  have hsz : (str l).size ≤ 1000 := by rw [strlen]; exact hl
  have HL : Hid ((str l).size = l.length) := Lib.hid (strlen l)
  have HX : Hid (powS l = (if (45 : UInt8) ∈ l then -1 else 1) * ((l.foldl capF 0 : Nat) : Int)) := Lib.hid rfl
  have HF := Lib.hid (fold_step l)
  have HS := Lib.hid (sign_step l)
  generalize str l = s at hsz HL HF HS ⊢
  clear hl
  go_enter Tryz.func88, Tryz.ntmps88
  go_wp2_with fail
  go_loop [3, 4, 5] (fun n sg i => ∃ k : Nat, k ≤ s.size ∧ i = .int .i64 k ∧ n = .int .i64 ((l.take k).foldl capF 0 : Nat) ∧ sg = .int .i64 (if (45 : UInt8) ∈ l.take k then -1 else 1)) (fun _ _ i => s.size - (intOf i).toNat)
  case atStart => exact ⟨0, Nat.zero_le _, rfl, rfl, rfl⟩
  case round =>
    obtain ⟨k, hk, rfl, rfl, rfl⟩ := hrel
    have hcl := cap_lt (l.take k) 0 (by omega)
    by_cases hlt : k < s.size
    · have hu : s[k].toNat < 256 := UInt8.toNat_lt _
      have HFk := Lib.hid (HF.out k hlt)
      have HSk := Lib.hid (HS.out k hlt)
      obtain ⟨sg, hsg⟩ : ∃ sg : Int, (if (45 : UInt8) ∈ l.take k then -1 else 1) = sg := ⟨_, rfl⟩
      have HSG := Lib.hid hsg
      obtain ⟨n, hn⟩ : ∃ n, (l.take k).foldl capF 0 = n := ⟨_, rfl⟩
      rw [hn] at hcl HFk ⊢
      rw [hsg]
      clear hn hsg
      by_cases h45 : s[k].toNat = 45
      · have q : ((s[k].toNat : Int) == 45) = true := by rw [h45]; rfl
        have HN : Hid ((l.take (k + 1)).foldl capF 0 = n) := Lib.hid (by rw [HFk.out, capF_not (by unfold isDig; omega)])
        have HG : Hid ((if (45 : UInt8) ∈ l.take (k + 1) then (-1 : Int) else 1) = -1) := Lib.hid (if_pos (HSk.out.2 (.inr h45)))
        clear h45
        go_wp2_with go_in
        go_round
        case rel => exact ⟨k + 1, by omega, by go_num, by rw [HN.out], by rw [HG.out]⟩
        case measure => simp [intOf]; omega
      · have q : ((s[k].toNat : Int) == 45) = false := by rw [beq_eq_false_iff_ne]; omega
        have HG : Hid ((if (45 : UInt8) ∈ l.take (k + 1) then (-1 : Int) else 1) = sg) := Lib.hid (by
          rw [← HSG.out]
          by_cases hm : (45 : UInt8) ∈ l.take k
          · rw [if_pos (HSk.out.2 (.inl hm)), if_pos hm]
          · rw [if_neg (fun h => (HSk.out.1 h).elim hm h45), if_neg hm])
        clear h45
        rcases dig_cases s[k].toNat with ⟨h1, h2⟩ | h | h
        · have q1 : decide ((48 : Int) ≤ (s[k].toNat : Int)) = true := decide_eq_true (by omega)
          have q2 : decide ((s[k].toNat : Int) ≤ 57) = true := decide_eq_true (by omega)
          by_cases hbig : n < 10000
          · have q3 : decide ((n : Int) < 10000) = true := decide_eq_true (by omega)
            have HN : Hid ((l.take (k + 1)).foldl capF 0 = 10 * n + (s[k].toNat - 48)) := Lib.hid (by rw [HFk.out]; unfold capF isDig; rw [if_pos ⟨⟨h1, h2⟩, hbig⟩])
            go_wp2_with go_in
            go_round
            case rel => exact ⟨k + 1, by omega, by go_num, by rw [HN.out]; go_num, by rw [HG.out]⟩
            case measure => simp [intOf]; omega
          · have q3 : decide ((n : Int) < 10000) = false := decide_eq_false (by omega)
            have HN : Hid ((l.take (k + 1)).foldl capF 0 = n) := Lib.hid (by rw [HFk.out]; unfold capF; rw [if_neg (fun h => hbig h.2)])
            go_wp2_with go_in
            go_round
            case rel => exact ⟨k + 1, by omega, by go_num, by rw [HN.out], by rw [HG.out]⟩
            case measure => simp [intOf]; omega
        · have q1 : decide ((48 : Int) ≤ (s[k].toNat : Int)) = false := decide_eq_false (by omega)
          have HN : Hid ((l.take (k + 1)).foldl capF 0 = n) := Lib.hid (by rw [HFk.out, capF_not (by unfold isDig; omega)])
          go_wp2_with go_in
          go_round
          case rel => exact ⟨k + 1, by omega, by go_num, by rw [HN.out], by rw [HG.out]⟩
          case measure => simp [intOf]; omega
        · have q1 : decide ((48 : Int) ≤ (s[k].toNat : Int)) = true := decide_eq_true (by omega)
          have q2 : decide ((s[k].toNat : Int) ≤ 57) = false := decide_eq_false (by omega)
          have HN : Hid ((l.take (k + 1)).foldl capF 0 = n) := Lib.hid (by rw [HFk.out, capF_not (by unfold isDig; omega)])
          go_wp2_with go_in
          go_round
          case rel => exact ⟨k + 1, by omega, by go_num, by rw [HN.out], by rw [HG.out]⟩
          case measure => simp [intOf]; omega
    · obtain rfl : k = s.size := by omega
      have e : l.take s.size = l := by rw [HL.out]; exact List.take_length
      rw [e] at hcl ⊢
      obtain ⟨n, hn⟩ : ∃ n, l.foldl capF 0 = n := ⟨_, rfl⟩
      rw [hn] at HX hcl ⊢
      by_cases hm : (45 : UInt8) ∈ l
      · rw [if_pos hm] at HX ⊢
        clear hm
        go_wp2_with go_in
        go_ret
        exact ⟨ret_num (by rw [HX.out]; omega), rfl⟩
      · rw [if_neg hm] at HX ⊢
        clear hm
        go_wp2_with go_in
        go_ret
        exact ⟨ret_num (by rw [HX.out]; omega), rfl⟩

/-- A value and a place are handed back. -/
def RetN (v : V) (z : Int) (w : World) (r : Ending) (w' : World) : Prop := r = .returned (.tuple #[v.agg none 0, .int .i64 z]) ∧ Below w.heap.size w w'
set_option maxHeartbeats 8000000 in
theorem specMade (n e z : Int) (w : World) (hn : inR n) : Calls Tryz.prog 87 #[.int .i64 n, .int .i64 e, .int .i64 z] w (RetN (normD n e) (if normB n e then z else -1) w) := by
  have HN := Lib.hid (fun W => specNorm n e W hn)
  have B0 := Blk.new w 43 #[.int .i64 0, .int .i64 0, .int .i64 0, .string ⟨#[]⟩, .slice none 0 0]
  have b0 : Below w.heap.size w (w.alloc (.cells #[.int .i64 0, .int .i64 0, .int .i64 0, .string ⟨#[]⟩, .slice none 0 0] 43)) := (Below.refl _ w).alloc (Nat.le_refl _) _
  have HB0 := Lib.hid B0
  have Hb0 := Lib.hid b0
  clear B0 b0
  obtain ⟨v, hv⟩ : ∃ v, normD n e = v := ⟨_, rfl⟩
  obtain ⟨ok, hok⟩ : ∃ ok, normB n e = ok := ⟨_, rfl⟩
  unfold NormRet at HN
  rw [hv, hok] at HN
  have HV : Hid (ok = false → v = V.nought) := Lib.hid (fun h => by
    rw [h] at hok
    rw [← hv]
    unfold normB at hok
    unfold normD
    cases hh : normR n e with
    | none => rfl
    | some x => rw [hh] at hok; cases hok)
  rw [hv, hok]
  obtain ⟨zz, hzz⟩ : ∃ zz, (if ok then z else -1) = zz := ⟨_, rfl⟩
  rw [hzz]
  clear hv hok
  unfold V.agg at HN
  go_enter Tryz.func87, Tryz.ntmps87
  go_wp2_with fail
  refine (HN.out _).mono ?_
  rintro r w1 ⟨rfl, hb1⟩
  go_upto_region 2 with fail
  have B1 := (HB0.out.below hb1 HB0.out.lt).alloc (.cells #[.int .i64 v.k, .int .i64 v.n, .int .i64 v.e, .string v.s, .slice none v.kids.length 0] 43)
  have Bv := Blk.new w1 43 #[.int .i64 v.k, .int .i64 v.n, .int .i64 v.e, .string v.s, .slice none v.kids.length 0]
  have b1 := (Hb0.out.trans (hb1.mono Hb0.out.size)).alloc (Nat.le_trans Hb0.out.size hb1.size) (.cells #[.int .i64 v.k, .int .i64 v.n, .int .i64 v.e, .string v.s, .slice none v.kids.length 0] 43)
  have hne : w1.heap.size ≠ w.heap.size := by have := HB0.out.lt; have := hb1.size; omega
  obtain ⟨w2, hw2⟩ : ∃ w2, w1.alloc (.cells #[.int .i64 v.k, .int .i64 v.n, .int .i64 v.e, .string v.s, .slice none v.kids.length 0] 43) = w2 := ⟨_, rfl⟩
  rw [hw2] at B1 Bv b1 ⊢
  obtain ⟨q0, q1, q2, q3, q4⟩ := B1.five
  obtain ⟨p0, p1, p2, p3, p4⟩ := Bv.five
  have f0 := B1.frozen 0
  have f1 := B1.frozen 1
  have f2 := B1.frozen 2
  have f3 := B1.frozen 3
  have f4 := B1.frozen 4
  have HB1 := Lib.hid b1
  clear hb1 B1 b1 hw2 Bv
  cases ok with
  | false =>
    have HVV := Lib.hid (HV.out rfl)
    have HZ : Hid (zz = -1) := Lib.hid hzz.symm
    clear hzz
    go_wp2_with fail
    refine bodyPost_ret (v := .tuple #[.agg #[.int .i64 0, .int .i64 0, .int .i64 0, .string ⟨#[]⟩, .slice none 0 0], .int .i64 (-1)]) (by simp [results, Tryz.results87, go_sem, q0, q1, q2, q3, q4]) rfl ⟨by rw [HVV.out, HZ.out]; rfl, ?_⟩
    repeat (first | exact HB1.out | (refine Below.setCell ?_ (by simp) _))
  | true =>
    have HZ : Hid (zz = z) := Lib.hid hzz.symm
    clear hzz
    go_wp2_with fail
    refine bodyPost_ret (v := .tuple #[.agg #[.int .i64 v.k, .int .i64 v.n, .int .i64 v.e, .string v.s, .slice none v.kids.length 0], .int .i64 z]) (by simp [results, Tryz.results87, go_sem, q0, q1, q2, q3, q4]) rfl ⟨by rw [HZ.out]; rfl, ?_⟩
    repeat (first | exact HB1.out | (refine Below.setCell ?_ (by simp) _))
end Go.Proofs.YtbfddabljkoapaaGreatDoor

/-
  The reference's number of many digits.
-/
namespace Go.Proofs.YtbfddabljkoapaaGreatDoor
open Go.RowKit
set_option linter.unusedVariables false
set_option linter.unusedSimpArgs false
set_option maxRecDepth 100000

set_option maxHeartbeats 8000000 in
theorem specLong (s : ByteArray) (i f a b d : Nat) (w : World) (hs : s.size ≤ 1048576) (hia : i ≤ a) (ha : a ≤ s.size) (v : V) (z : Int)
    (hv : (∃ n, readZ (s.extract i a) = some n ∧ d ≤ a ∧ v = V.int n ∧ z = d) ∨ ((readZ (s.extract i a) = none ∨ a < d) ∧ v = V.nought ∧ z = -1)) :
    Calls Tryz.prog 86 #[.string s, .int .i64 i, .int .i64 f, .int .i64 a, .int .i64 b, .int .i64 d] w (RetN v z w) := by
  have HZ := Lib.hid (fun W => specReadZ (s.extract i a) W (by rw [ByteArray.size_extract]; omega))
  have hx0 : (0 : Int) ≤ (i : Int) ∧ (i : Int) ≤ (a : Int) ∧ (a : Int) ≤ (s.size : Int) := by omega
  obtain ⟨hx1, hx2, hx3⟩ := hx0
  have B0 := Blk.new w 43 #[.int .i64 0, .int .i64 0, .int .i64 0, .string ⟨#[]⟩, .slice none 0 0]
  have b0 : Below w.heap.size w (w.alloc (.cells #[.int .i64 0, .int .i64 0, .int .i64 0, .string ⟨#[]⟩, .slice none 0 0] 43)) := (Below.refl _ w).alloc (Nat.le_refl _) _
  have HB0 := Lib.hid B0
  have Hb0 := Lib.hid b0
  have hr0 := readZ_range (s.extract i a)
  clear B0 b0 hia ha
  rcases hv with ⟨n, hz, hd, rfl, rfl⟩ | ⟨hz, rfl, rfl⟩
  · rw [hz] at HZ hr0
    have hq : ¬ (a : Int) < (d : Int) := by omega
    have HI := Lib.hid (fun W => specInt n W)
    clear hz hd
    unfold V.agg at HI
    go_enter Tryz.func86, Tryz.ntmps86
    go_wp2_with fail
    refine (HZ.out _).mono ?_
    rintro r w1 ⟨rfl, rfl⟩
    go_wp2_with fail
    refine (HI.out _).mono ?_
    rintro r w1 ⟨rfl, hb1⟩
    have B1 := HB0.out.below hb1 HB0.out.lt
    have b1 := Hb0.out.trans (hb1.mono Hb0.out.size)
    obtain ⟨q0, q1, q2, q3, q4⟩ := B1.five
    have f0 := B1.frozen 0
    have f1 := B1.frozen 1
    have f2 := B1.frozen 2
    have f3 := B1.frozen 3
    have f4 := B1.frozen 4
    have HB1 := Lib.hid b1
    clear hb1 B1 b1
    go_wp2_with fail
    refine bodyPost_ret (v := .tuple #[.agg #[.int .i64 3, .int .i64 n, .int .i64 0, .string ⟨#[]⟩, .slice none 0 0], .int .i64 d]) (by simp [results, Tryz.results86, go_sem, q0, q1, q2, q3, q4, V.int, V.k, V.n, V.e, V.s, V.kids]) rfl ⟨rfl, ?_⟩
    repeat (first | exact HB1.out | (refine Below.setCell ?_ (by simp) _))
  · obtain ⟨q0, q1, q2, q3, q4⟩ := HB0.out.five
    have f0 := HB0.out.frozen 0
    have f1 := HB0.out.frozen 1
    have f2 := HB0.out.frozen 2
    have f3 := HB0.out.frozen 3
    have f4 := HB0.out.frozen 4
    obtain ⟨w0, hw0⟩ : ∃ w0, w.alloc (.cells #[.int .i64 0, .int .i64 0, .int .i64 0, .string ⟨#[]⟩, .slice none 0 0] 43) = w0 := ⟨_, rfl⟩
    rw [hw0] at q0 q1 q2 q3 q4 f0 f1 f2 f3 f4 Hb0
    have HW0 := Lib.hid hw0
    clear hw0 HB0
    cases h1 : readZ (s.extract i a) with
    | none =>
      rw [h1] at HZ
      clear h1 hz hr0
      go_enter Tryz.func86, Tryz.ntmps86
      go_wp2_with fail
      rw [HW0.out]
      refine (HZ.out _).mono ?_
      rintro r w1 ⟨rfl, rfl⟩
      go_wp2_with fail
      refine bodyPost_ret (v := .tuple #[.agg #[.int .i64 0, .int .i64 0, .int .i64 0, .string ⟨#[]⟩, .slice none 0 0], .int .i64 (-1)]) (by simp [results, Tryz.results86, go_sem, q0, q1, q2, q3, q4]) rfl ⟨rfl, ?_⟩
      repeat (first | exact Hb0.out | (refine Below.setCell ?_ (by simp) _))
    | some n =>
      rw [h1] at HZ hr0 hz
      have hq : (a : Int) < (d : Int) := by
        rcases hz with h | h
        · cases h
        · omega
      clear h1 hz
      go_enter Tryz.func86, Tryz.ntmps86
      go_wp2_with fail
      rw [HW0.out]
      refine (HZ.out _).mono ?_
      rintro r w1 ⟨rfl, rfl⟩
      go_wp2_with fail
      refine bodyPost_ret (v := .tuple #[.agg #[.int .i64 0, .int .i64 0, .int .i64 0, .string ⟨#[]⟩, .slice none 0 0], .int .i64 (-1)]) (by simp [results, Tryz.results86, go_sem, q0, q1, q2, q3, q4]) rfl ⟨rfl, ?_⟩
      repeat (first | exact Hb0.out | (refine Below.setCell ?_ (by simp) _))
end Go.Proofs.YtbfddabljkoapaaGreatDoor
