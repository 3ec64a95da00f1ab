/-
  GetSign of the reference: the sign at a place, as the model's own decoder reads it.
-/
import Derived.Test.YtlgonfdodmipeaaDoorSgn
import Derived.Test.YtlgonfdodmipeaaDoorPutSignS
import Derived.Deep.RegionHeld3
namespace Go.Proofs.YtlgonfdodmipeaaDoor
open Go.RowKit
set_option linter.unusedVariables false

theorem and31 (n : Nat) (h : n < 9223372036854775808) : bits .and .i64 (n : Int) 31 = ((n % 32 : Nat) : Int) := by
  have h1 := ofInt_i64 n h
  have h2 := ofInt_i64 31 (by omega)
  show IntKind.i64.wrap ((BitVec.ofInt 64 (n : Int) &&& BitVec.ofInt 64 ((31 : Nat) : Int)).toNat : Int) = _
  rw [BitVec.toNat_and, h1, h2, Nat.and_two_pow_sub_one_eq_mod n 5, IntKind.wrap_i64]
  omega
theorem and15i (n : Nat) (h : n < 9223372036854775808) : bits .and .i64 (n : Int) 15 = ((n % 16 : Nat) : Int) := by
  have h1 := ofInt_i64 n h
  have h2 := ofInt_i64 15 (by omega)
  show IntKind.i64.wrap ((BitVec.ofInt 64 (n : Int) &&& BitVec.ofInt 64 ((15 : Nat) : Int)).toNat : Int) = _
  rw [BitVec.toNat_and, h1, h2, Nat.and_two_pow_sub_one_eq_mod n 4, IntKind.wrap_i64]
  omega
theorem and7i (n : Nat) (h : n < 9223372036854775808) : bits .and .i64 (n : Int) 7 = ((n % 8 : Nat) : Int) := by
  have h1 := ofInt_i64 n h
  have h2 := ofInt_i64 7 (by omega)
  show IntKind.i64.wrap ((BitVec.ofInt 64 (n : Int) &&& BitVec.ofInt 64 ((7 : Nat) : Int)).toNat : Int) = _
  rw [BitVec.toNat_and, h1, h2, Nat.and_two_pow_sub_one_eq_mod n 3, IntKind.wrap_i64]
  omega

set_option maxRecDepth 100000 in
theorem specMany (b : Nat) (hb : b < 256) (w : World) :
    Calls Tryd.prog 42 #[.int .i64 b] w fun e w' => e = .returned (.tuple #[.int .i64 (manyN b), .int .i64 (headN b)]) ∧ w = w' := by
  have e1 := and31 b (by omega)
  have e2 := and15i b (by omega)
  have e3 := and7i b (by omega)
  rcases (show b < 128 ∨ (128 ≤ b ∧ b < 192) ∨ (192 ≤ b ∧ b ≤ 223) ∨ (224 ≤ b ∧ b ≤ 239) ∨ (240 ≤ b ∧ b ≤ 247) ∨ (248 ≤ b) by omega) with h | h | h | h | h | h
  · have hm : manyN b = 1 ∧ headN b = b := by unfold manyN headN; rw [if_pos h, if_pos h]; exact ⟨rfl, rfl⟩
    rw [hm.1, hm.2]
    clear hm
    go_enter Tryd.func42, Tryd.ntmps42
    go_wp2_with go_in
    go_ret2
    exact ⟨rfl, rfl⟩
  · have hm : manyN b = 0 ∧ headN b = 0 := by
      unfold manyN headN
      rw [if_neg (by omega), if_neg (by omega), if_neg (by omega), if_neg (by omega), if_neg (by omega), if_neg (by omega), if_neg (by omega), if_neg (by omega)]; exact ⟨rfl, rfl⟩
    rw [hm.1, hm.2]
    clear hm
    go_enter Tryd.func42, Tryd.ntmps42
    go_wp2_with go_in
    go_ret2
    exact ⟨rfl, rfl⟩
  · have hm : manyN b = 2 ∧ headN b = b % 32 := by
      unfold manyN headN
      rw [if_neg (by omega), if_pos h, if_neg (by omega), if_pos h]; exact ⟨rfl, rfl⟩
    rw [hm.1, hm.2]
    clear hm
    go_enter Tryd.func42, Tryd.ntmps42
    go_wp2_with go_in
    go_ret2
    exact ⟨rfl, rfl⟩
  · have hm : manyN b = 3 ∧ headN b = b % 16 := by
      unfold manyN headN
      rw [if_neg (by omega), if_neg (by omega), if_pos h, if_neg (by omega), if_neg (by omega), if_pos h]; exact ⟨rfl, rfl⟩
    rw [hm.1, hm.2]
    clear hm
    go_enter Tryd.func42, Tryd.ntmps42
    go_wp2_with go_in
    go_ret2
    exact ⟨rfl, rfl⟩
  · have hm : manyN b = 4 ∧ headN b = b % 8 := by
      unfold manyN headN
      rw [if_neg (by omega), if_neg (by omega), if_neg (by omega), if_pos h, if_neg (by omega), if_neg (by omega), if_neg (by omega), if_pos h]; exact ⟨rfl, rfl⟩
    rw [hm.1, hm.2]
    clear hm
    go_enter Tryd.func42, Tryd.ntmps42
    go_wp2_with go_in
    go_ret2
    exact ⟨rfl, rfl⟩
  · have hm : manyN b = 0 ∧ headN b = 0 := by
      unfold manyN headN
      rw [if_neg (by omega), if_neg (by omega), if_neg (by omega), if_neg (by omega), if_neg (by omega), if_neg (by omega), if_neg (by omega), if_neg (by omega)]; exact ⟨rfl, rfl⟩
    rw [hm.1, hm.2]
    clear hm
    go_enter Tryd.func42, Tryd.ntmps42
    go_wp2_with go_in
    go_ret2
    exact ⟨rfl, rfl⟩

theorem gs_no {s : ByteArray} {i : Int} (h : ¬ gsOk s i) : gsN s i = -1 ∧ gsE s i = -1 := by
  unfold gsN gsE; rw [if_neg h, if_neg h]; exact ⟨rfl, rfl⟩
theorem gs_yes {s : ByteArray} {i : Int} (h : gsOk s i) : gsN s i = (Utf8.decode s i.toNat).1 ∧ gsE s i = i + (Utf8.decode s i.toNat).2 := by
  unfold gsN gsE; rw [if_pos h, if_pos h]; exact ⟨rfl, rfl⟩
theorem gs_yes' {s : ByteArray} {i : Nat} (h : gsOk s (i : Int)) : gsN s i = (Utf8.decode s i).1 ∧ gsE s i = (i : Int) + (Utf8.decode s i).2 := by
  have := gs_yes h
  rwa [Int.toNat_natCast] at this
theorem dec_w (s : ByteArray) (i : Nat) : (Utf8.decode s i).1 < 4294967296 ∧ 1 ≤ (Utf8.decode s i).2 ∧ (Utf8.decode s i).2 ≤ 4 := by
  rw [Lib.decode_at]
  have h0 := (s.get! i).toNat_lt
  have h1 := (s.get! (i + 1)).toNat_lt
  have h2 := (s.get! (i + 2)).toNat_lt
  have h3 := (s.get! (i + 3)).toNat_lt
  unfold Lib.decodeN
  repeat' split
  all_goals simp
  all_goals omega
theorem accN_step (s : ByteArray) (i k : Nat) (h : 1 ≤ k) (hk : i + k < s.size) : accN s i (k + 1 - 1) = accN s i (k - 1) * 64 + s[i + k].toNat % 64 := by
  obtain ⟨k, rfl⟩ : ∃ j, k = j + 1 := ⟨k - 1, by omega⟩
  rw [get_get! _ _ (by omega)]
  rfl
theorem tup2 {a a' b b' : Int} (h1 : a = a') (h2 : b = b') : Ending.returned (.tuple #[.int .i64 a, .int .i64 b]) = Ending.returned (.tuple #[.int .i64 a', .int .i64 b']) := by rw [h1, h2]

theorem sl2 (s : ByteArray) (i j : Nat) (h : i + j ≤ s.size) (hs : s.size ≤ 1048576) : (0 : Int) ≤ i ∧ (i : Int) ≤ (i : Int) + j ∧ (i : Int) + j ≤ s.size ∧ IntKind.i64.wrap ((i : Int) + j) = (i : Int) + j ∧ (0 : Int) ≤ (i : Int) + j ∧ ((i : Int) + j).toNat = i + j := by
  refine ⟨by omega, by omega, by omega, ?_, by omega, by omega⟩
  rw [IntKind.wrap_i64]; omega

set_option maxHeartbeats 1000000 in
theorem specGetSign (s : ByteArray) (i : Int) (w : World) (hs : s.size ≤ 1048576) (hi : -9223372036854775808 ≤ i ∧ i ≤ 9223372036854775807) :
    Calls Tryd.prog 14 #[.string s, .int .i64 i] w fun e w' => e = .returned (.tuple #[.int .i64 (gsN s i), .int .i64 (gsE s i)]) ∧ Below w.heap.size w w' := by
  by_cases hin : 0 ≤ i ∧ i < s.size
  · obtain ⟨h0, h1⟩ := hin
    obtain ⟨i, rfl⟩ := Int.eq_ofNat_of_zero_le h0
    have hlt : i < s.size := by omega
    have hu : s[i].toNat < 256 := UInt8.toNat_lt _
    have HG := Lib.hid (get_get! s i hlt)
    by_cases hno : manyN s[i].toNat = 0 ∨ s.size < i + manyN s[i].toNat
    · have HN := Lib.hid (gs_no (sgn_none s i (by rw [← HG.out]; exact hno)))
      rcases hno with hm | hm
      · have HM := Lib.hid hm
        clear hm
        go_enter Tryd.func14, Tryd.ntmps14
        go_wp2_with fail
        refine (specMany _ hu w).mono ?_
        rintro e w' ⟨rfl, rfl⟩
        rw [HM.out]
        go_wp2_with fail
        go_ret2
        exact ⟨tup2 HN.out.1.symm HN.out.2.symm, Below.refl _ _⟩
      · have hml := manyN_le s[i].toNat
        by_cases hm0 : manyN s[i].toNat = 0
        · have HM := Lib.hid hm0
          clear hm hm0
          go_enter Tryd.func14, Tryd.ntmps14
          go_wp2_with fail
          refine (specMany _ hu w).mono ?_
          rintro e w' ⟨rfl, rfl⟩
          rw [HM.out]
          go_wp2_with fail
          go_ret2
          exact ⟨tup2 HN.out.1.symm HN.out.2.symm, Below.refl _ _⟩
        · go_enter Tryd.func14, Tryd.ntmps14
          go_wp2_with fail
          refine (specMany _ hu w).mono ?_
          rintro e w' ⟨rfl, rfl⟩
          go_wp2_with fail
          all_goals go_ret2
          all_goals exact ⟨tup2 HN.out.1.symm HN.out.2.symm, Below.refl _ _⟩
    · obtain ⟨hm0, hmle⟩ : manyN s[i].toNat ≠ 0 ∧ i + manyN s[i].toNat ≤ s.size := by omega
      have hml := manyN_le s[i].toNat
      have HS := Lib.hid (sgn_some s i (manyN s[i].toNat) (by rw [HG.out]) (by omega) hmle)
      have HH := Lib.hid (show headN s[i].toNat = accN s i (1 - 1) by rw [HG.out]; rfl)
      clear hno
      go_enter Tryd.func14, Tryd.ntmps14
      go_wp2_with fail
      refine (specMany _ hu w).mono ?_
      rintro e w' ⟨rfl, rfl⟩
      rw [HH.out]
      generalize manyN s[i].toNat = m at *
      have hmz : ((m : Int) == 0) = false := by simp; omega
      have hm1 : 1 ≤ m := by omega
      clear hm0
      go_wp2_with fail
      go_loop [7, 8] (fun n k => ∃ j : Nat, 1 ≤ j ∧ j ≤ m ∧ k = .int .i64 j ∧ n = .int .i64 (accN s i (j - 1))) (fun _ k => m - (intOf k).toNat)
      case atStart => exact ⟨1, by omega, by omega, rfl, rfl⟩
      case round =>
        obtain ⟨j, hj1, hj, rfl, rfl⟩ := hrel
        have ha := accN_lt s i (j - 1) (by omega)
        by_cases hlt2 : j < m
        · have HST := Lib.hid (accN_step s i j hj1 (by omega))
          have hu2 : s[i + j].toNat < 256 := UInt8.toNat_lt _
          have hx := and63 s[i + j].toNat (by omega)
          generalize accN s i (j - 1) = a at *
          go_wp2_with fail
          go_round
          case rel => exact ⟨j + 1, by omega, by omega, by go_num, by rw [HST.out]; go_num⟩
          case measure => simp [intOf]; omega
        · obtain rfl : j = m := by omega
          have hcmp := sg_cmp s i j (accN s i (j - 1)) hmle
          have HC := Lib.hid hcmp
          clear hcmp
          generalize accN s i (j - 1) = a at *
          have HK : Hid (((signB (a : Int)).toList == (s.extract i (i + j)).toList) = decide (gsOk s (i : Int))) := by
            rw [Bool.eq_iff_iff, decide_eq_true_iff, HS.out.1, ← HC.out, beq_iff_eq, ByteArray.toList_eq, ByteArray.toList_eq]
            exact ⟨fun h => ba_ext h, fun h => by rw [h]⟩
          go_wp2_with fail
          obtain ⟨q1, q2, q3, q4, q5, q6⟩ := sl2 s i j hmle hs
          go_region_held3 (fun _ => True) (exact trivial) (first | (go_at_call 18; refine (specPutSign _ _ ⟨by omega, by omega⟩).mono ?_; rintro e w2 ⟨rfl, hb2⟩))
          by_cases hok : gsOk s (i : Int)
          · have ht : ((signB (a : Int)).toList == (s.extract i (i + j)).toList) = true := by rw [HK.out]; exact decide_eq_true hok
            have HY := Lib.hid (gs_yes hok)
            have HD := Lib.hid (HS.out.2 hok)
            clear q1 q2 q3 q4 q5 q6
            go_wp2_with fail
            all_goals go_ret2
            all_goals first
              | (have hx : (!(signB (a : Int)).toList == (s.extract i (i + j)).toList) = true := by assumption
                 rw [ht] at hx; cases hx)
              | exact ⟨tup2 (by rw [HY.out.1, Int.toNat_natCast, HD.out]) (by rw [HY.out.2, Int.toNat_natCast, HD.out]), (Below.refl _ _).drew.trans hb2⟩
          · have ht : ((signB (a : Int)).toList == (s.extract i (i + j)).toList) = false := by rw [HK.out]; exact decide_eq_false hok
            have HN := Lib.hid (gs_no hok)
            clear q1 q2 q3 q4 q5 q6
            go_wp2_with fail
            all_goals go_ret2
            all_goals first
              | (have hx : (!(signB (a : Int)).toList == (s.extract i (i + j)).toList) = false := by assumption
                 rw [ht] at hx; cases hx)
              | exact ⟨tup2 HN.out.1.symm HN.out.2.symm, (Below.refl _ _).drew.trans hb2⟩
  · have HN := Lib.hid (gs_no (s := s) (i := i) (fun h => hin ⟨h.1, h.2.1⟩))
    go_enter Tryd.func14, Tryd.ntmps14
    by_cases h0 : i < 0
    · clear hin
      go_wp2_with fail
      go_ret2
      exact ⟨tup2 HN.out.1.symm HN.out.2.symm, Below.refl _ _⟩
    · have h1 : (s.size : Int) ≤ i := by omega
      clear hin
      go_wp2_with fail
      go_ret2
      exact ⟨tup2 HN.out.1.symm HN.out.2.symm, Below.refl _ _⟩
end Go.Proofs.YtlgonfdodmipeaaDoor
