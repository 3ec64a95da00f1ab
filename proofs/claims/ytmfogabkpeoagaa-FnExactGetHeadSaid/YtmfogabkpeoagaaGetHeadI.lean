/-
  GetHead of the program.
-/
import Derived.Test.YtmfogabkpeoagaaGetHeadR
import Derived.Test.YtmfogabkpeoagaaGetWideI
namespace Go.Proofs.Ytmfogabkpeoagaa
open Go.RowKit
set_option linter.unusedVariables false

theorem headL_le (M n : Nat) : (headL M n).length ≤ 9 := by
  rw [headL_len]
  repeat' split
  all_goals omega
theorem and31u8 (n : Nat) (h : n < 256) : bits .and .u8 (n : Int) 31 = ((n % 32 : Nat) : Int) := by
  have h1 : (BitVec.ofInt 8 (n : Int)).toNat = n := by rw [BitVec.toNat_ofInt]; omega
  have h2 : (BitVec.ofInt 8 (31 : Int)).toNat = 31 := by decide
  show IntKind.u8.wrap ((BitVec.ofInt 8 (n : Int) &&& BitVec.ofInt 8 (31 : Int)).toNat : Int) = _
  rw [BitVec.toNat_and, h1, h2, Nat.and_two_pow_sub_one_eq_mod n 5, IntKind.wrap_u8']
  omega
theorem gw_ah {s : ByteArray} {i m : Nat} (h : i + 1 + m ≤ s.size) (h1 : 1 ≤ m) (h8 : m ≤ 8) : gwN s ((i : Int) + 1) m = i64of (big (piece s (i + 1) m)) ∧ gwB s ((i : Int) + 1) m = true := by
  have hok : gwOk s ((i : Int) + 1) m := ⟨by omega, by omega, by omega, by omega⟩
  unfold gwN gwB
  rw [if_pos hok]
  exact ⟨by rw [show ((i : Int) + 1).toNat = i + 1 by omega, Int.toNat_natCast], decide_eq_true hok⟩
theorem gw_ah_no {s : ByteArray} {i m : Nat} (h : s.size < i + 1 + m) : gwB s ((i : Int) + 1) m = false := by
  unfold gwB
  exact decide_eq_false (fun hh => by have := hh.2.2.2; omega)
theorem u64_i64of (n : Nat) (h : n < 18446744073709551616) : IntKind.u64.wrap (i64of n) = (n : Int) := by
  unfold i64of
  rw [wrap64_eq, IntKind.wrap_u64]
  omega

set_option maxHeartbeats 1000000 in
theorem anyHead_out (s : ByteArray) (i : Int) (w : World) (hs : s.size ≤ 1048576) (h : ¬ (0 ≤ i ∧ i < s.size)) :
    Calls Try.prog 18 #[.string s, .int .i64 i] w fun e w' => e = .returned (ahRet s i) ∧ Below w.heap.size w w' := by
  have HN := Lib.hid (ahRet_no (s := s) (i := i) (fun hh => h ⟨hh.1, hh.2.1⟩))
  have hd : (decide (0 ≤ i) && decide (i ≤ (s.size : Int) - 1)) = false := by
    simp; omega
  rcases (show decide (0 ≤ i) = false ∨ (decide (0 ≤ i) = true ∧ decide (i ≤ (s.size : Int) - 1) = false) by simp; omega) with hc | hc
  all_goals
    clear h hd
    go_enter Try.func18, Try.ntmps18
    go_wp2_with (go_at_call 22; go_in)
    go_ret3
    exact ⟨congrArg Ending.returned HN.out.symm, Below.refl _ _⟩

set_option maxHeartbeats 1000000 in
theorem anyHead_small (s : ByteArray) (i : Nat) (w : World) (hs : s.size ≤ 1048576) (hi : i < s.size) (h : s[i].toNat % 32 < 24) :
    Calls Try.prog 18 #[.string s, .int .i64 i] w fun e w' => e = .returned (ahRet s i) ∧ Below w.heap.size w w' := by
  have HN := Lib.hid (ahRet_small hi h)
  have hu : s[i].toNat < 256 := UInt8.toNat_lt _
  have h31 := and31u8 s[i].toNat hu
  have hd : decide ((i : Int) ≤ (s.size : Int) - 1) = true := decide_eq_true (by omega)
  go_enter Try.func18, Try.ntmps18
  go_wp2_with (go_at_call 22; go_in)
  go_quiet (fail)
  go_wp2_with fail
  go_ret3
  exact ⟨by rw [HN.out]; exact tup3 (by go_num) (by go_num) (by go_num), by first | exact Below.refl _ _ | exact below_drewN (Below.refl _ _) _⟩

set_option maxHeartbeats 1000000 in
theorem anyHead_big (s : ByteArray) (i : Nat) (w : World) (hs : s.size ≤ 1048576) (hi : i < s.size) (h : 27 < s[i].toNat % 32) :
    Calls Try.prog 18 #[.string s, .int .i64 i] w fun e w' => e = .returned (ahRet s i) ∧ Below w.heap.size w w' := by
  have HN := Lib.hid (ahRet_no (ahOk_not_big hi h))
  have hu : s[i].toNat < 256 := UInt8.toNat_lt _
  have h31 := and31u8 s[i].toNat hu
  have hd : decide ((i : Int) ≤ (s.size : Int) - 1) = true := decide_eq_true (by omega)
  go_enter Try.func18, Try.ntmps18
  go_wp2_with (go_at_call 22; go_in)
  go_quiet (fail)
  go_wp2_with fail
  go_ret3
  exact ⟨congrArg Ending.returned HN.out.symm, by first | exact Below.refl _ _ | exact below_drewN (Below.refl _ _) _⟩

set_option maxHeartbeats 2000000 in
theorem anyHead_wide (s : ByteArray) (i k : Nat) (w : World) (hs : s.size ≤ 1048576) (hi : i < s.size) (h : s[i].toNat % 32 = 24 + k) (hk : k < 4) :
    Calls Try.prog 18 #[.string s, .int .i64 i] w fun e w' => e = .returned (ahRet s i) ∧ Below w.heap.size w w' := by
  have hu : s[i].toNat < 256 := UInt8.toNat_lt _
  have h31 := and31u8 s[i].toNat hu
  have hd : decide ((i : Int) ≤ (s.size : Int) - 1) = true := decide_eq_true (by omega)
  rcases (show k = 0 ∨ k = 1 ∨ k = 2 ∨ k = 3 by omega) with rfl | rfl | rfl | rfl
  all_goals
    have hi31 : ((s[i].toNat % 32 : Nat) : Int) = _ := congrArg Nat.cast h
    have hi32 : (s[i].toNat : Int) % 32 = _ := hi31
    rw [h] at h31
    go_enter Try.func18, Try.ntmps18
    go_wp2_with (go_at_call 22; go_in)
    go_quiet (fail)
    go_wp2_with fail
  · by_cases hm : i + 1 + 1 ≤ s.size
    · have HW := Lib.hid (gw_ah (s := s) (i := i) (m := 1) hm (by omega) (by omega))
      have HN := Lib.hid (ahRet_wide (k := 0) hi h (by omega) hm)
      have hl8 := big_lt8 (piece s (i + 1) 1) (by rw [piece_len _ _ _ (by omega)]; omega)
      have HU := Lib.hid (u64_i64of _ hl8)
      clear hm
      refine (implGetWide s ((i : Int) + 1) ((1 : Nat) : Int) _ hs (by omega)).mono ?_
      rintro e w1 ⟨rfl, rfl⟩
      rw [HW.out.1, HW.out.2]
      generalize i64of (big (piece s (i + 1) 1)) = z at *
      go_wp2_with fail
      go_ret3
      exact ⟨by rw [HN.out]; exact tup3 (by go_num) HU.out (by go_num), below_drewN (Below.refl _ _) _⟩
    · have HW := Lib.hid (gw_ah_no (s := s) (i := i) (m := 1) (by omega))
      have HN := Lib.hid (ahRet_no (ahOk_not_wide (k := 0) hi h (by omega)))
      clear hm
      refine (implGetWide s ((i : Int) + 1) ((1 : Nat) : Int) _ hs (by omega)).mono ?_
      rintro e w1 ⟨rfl, rfl⟩
      rw [HW.out]
      generalize gwN s ((i : Int) + 1) ((1 : Nat) : Int) = z at *
      go_wp2_with fail
      go_ret3
      exact ⟨congrArg Ending.returned HN.out.symm, below_drewN (Below.refl _ _) _⟩
  · by_cases hm : i + 1 + 2 ≤ s.size
    · have HW := Lib.hid (gw_ah (s := s) (i := i) (m := 2) hm (by omega) (by omega))
      have HN := Lib.hid (ahRet_wide (k := 1) hi h (by omega) hm)
      have hl8 := big_lt8 (piece s (i + 1) 2) (by rw [piece_len _ _ _ (by omega)]; omega)
      have HU := Lib.hid (u64_i64of _ hl8)
      clear hm
      refine (implGetWide s ((i : Int) + 1) ((2 : Nat) : Int) _ hs (by omega)).mono ?_
      rintro e w1 ⟨rfl, rfl⟩
      rw [HW.out.1, HW.out.2]
      generalize i64of (big (piece s (i + 1) 2)) = z at *
      go_wp2_with fail
      go_ret3
      exact ⟨by rw [HN.out]; exact tup3 (by go_num) HU.out (by go_num), below_drewN (Below.refl _ _) _⟩
    · have HW := Lib.hid (gw_ah_no (s := s) (i := i) (m := 2) (by omega))
      have HN := Lib.hid (ahRet_no (ahOk_not_wide (k := 1) hi h (by omega)))
      clear hm
      refine (implGetWide s ((i : Int) + 1) ((2 : Nat) : Int) _ hs (by omega)).mono ?_
      rintro e w1 ⟨rfl, rfl⟩
      rw [HW.out]
      generalize gwN s ((i : Int) + 1) ((2 : Nat) : Int) = z at *
      go_wp2_with fail
      go_ret3
      exact ⟨congrArg Ending.returned HN.out.symm, below_drewN (Below.refl _ _) _⟩
  · by_cases hm : i + 1 + 4 ≤ s.size
    · have HW := Lib.hid (gw_ah (s := s) (i := i) (m := 4) hm (by omega) (by omega))
      have HN := Lib.hid (ahRet_wide (k := 2) hi h (by omega) hm)
      have hl8 := big_lt8 (piece s (i + 1) 4) (by rw [piece_len _ _ _ (by omega)]; omega)
      have HU := Lib.hid (u64_i64of _ hl8)
      clear hm
      refine (implGetWide s ((i : Int) + 1) ((4 : Nat) : Int) _ hs (by omega)).mono ?_
      rintro e w1 ⟨rfl, rfl⟩
      rw [HW.out.1, HW.out.2]
      generalize i64of (big (piece s (i + 1) 4)) = z at *
      go_wp2_with fail
      go_ret3
      exact ⟨by rw [HN.out]; exact tup3 (by go_num) HU.out (by go_num), below_drewN (Below.refl _ _) _⟩
    · have HW := Lib.hid (gw_ah_no (s := s) (i := i) (m := 4) (by omega))
      have HN := Lib.hid (ahRet_no (ahOk_not_wide (k := 2) hi h (by omega)))
      clear hm
      refine (implGetWide s ((i : Int) + 1) ((4 : Nat) : Int) _ hs (by omega)).mono ?_
      rintro e w1 ⟨rfl, rfl⟩
      rw [HW.out]
      generalize gwN s ((i : Int) + 1) ((4 : Nat) : Int) = z at *
      go_wp2_with fail
      go_ret3
      exact ⟨congrArg Ending.returned HN.out.symm, below_drewN (Below.refl _ _) _⟩
  · by_cases hm : i + 1 + 8 ≤ s.size
    · have HW := Lib.hid (gw_ah (s := s) (i := i) (m := 8) hm (by omega) (by omega))
      have HN := Lib.hid (ahRet_wide (k := 3) hi h (by omega) hm)
      have hl8 := big_lt8 (piece s (i + 1) 8) (by rw [piece_len _ _ _ (by omega)]; omega)
      have HU := Lib.hid (u64_i64of _ hl8)
      clear hm
      refine (implGetWide s ((i : Int) + 1) ((8 : Nat) : Int) _ hs (by omega)).mono ?_
      rintro e w1 ⟨rfl, rfl⟩
      rw [HW.out.1, HW.out.2]
      generalize i64of (big (piece s (i + 1) 8)) = z at *
      go_wp2_with fail
      go_ret3
      exact ⟨by rw [HN.out]; exact tup3 (by go_num) HU.out (by go_num), below_drewN (Below.refl _ _) _⟩
    · have HW := Lib.hid (gw_ah_no (s := s) (i := i) (m := 8) (by omega))
      have HN := Lib.hid (ahRet_no (ahOk_not_wide (k := 3) hi h (by omega)))
      clear hm
      refine (implGetWide s ((i : Int) + 1) ((8 : Nat) : Int) _ hs (by omega)).mono ?_
      rintro e w1 ⟨rfl, rfl⟩
      rw [HW.out]
      generalize gwN s ((i : Int) + 1) ((8 : Nat) : Int) = z at *
      go_wp2_with fail
      go_ret3
      exact ⟨congrArg Ending.returned HN.out.symm, below_drewN (Below.refl _ _) _⟩
theorem anyHead (s : ByteArray) (i : Int) (w : World) (hs : s.size ≤ 1048576) :
    Calls Try.prog 18 #[.string s, .int .i64 i] w fun e w' => e = .returned (ahRet s i) ∧ Below w.heap.size w w' := by
  by_cases h : 0 ≤ i ∧ i < s.size
  · obtain ⟨i, rfl⟩ := Int.eq_ofNat_of_zero_le h.1
    have hi : i < s.size := by omega
    by_cases h1 : s[i].toNat % 32 < 24
    · exact anyHead_small s i w hs hi h1
    · by_cases h2 : 27 < s[i].toNat % 32
      · exact anyHead_big s i w hs hi h2
      · exact anyHead_wide s i (s[i].toNat % 32 - 24) w hs hi (by omega) (by omega)
  · exact anyHead_out s i w hs h

set_option maxHeartbeats 2000000 in
theorem implGetHead (s : ByteArray) (i : Int) (w : World) (hs : s.size ≤ 1048576) :
    Calls Try.prog 14 #[.string s, .int .i64 i] w fun e w' => e = .returned (ghRet s i) ∧ Below w.heap.size w w' := by
  by_cases hA : ahOk s i
  · have hA' := hA
    unfold ahOk at hA'
    obtain ⟨i, rfl⟩ := Int.eq_ofNat_of_zero_le hA'.1
    rw [Int.toNat_natCast] at hA'
    have HP := Lib.hid (putHeadL_ah s i)
    have hN := ahN_lt s i (by omega) hA'.2.2.1 (by omega)
    have HR : Hid (ahRet s (i : Int) = _) := Lib.hid (by unfold ahRet; rw [if_pos hA, Int.toNat_natCast])
    have HG : Hid (ghRet s (i : Int) = _) := Lib.hid (by unfold ghRet; rw [Int.toNat_natCast])
    have HK : Hid (ghOk s (i : Int) ↔ (headL ((s.get! i).toNat / 32) (ahN s i)).length = 1 + ahM (s.get! i).toNat) := Lib.hid (by unfold ghOk; rw [Int.toNat_natCast]; exact ⟨fun h => h.2, fun h => ⟨hA, h⟩⟩)
    have hb := (s.get! i).toNat_lt
    go_enter Try.func14, Try.ntmps14
    go_wp2_with fail
    refine (anyHead s i _ hs).mono ?_
    rintro e w1 ⟨rfl, hb1⟩
    rw [HR.out]
    have hLL := headL_le ((s.get! i).toNat / 32) (ahN s i)
    generalize hML : headL ((s.get! i).toNat / 32) (ahN s i) = L at *
    generalize ahM (s.get! i).toNat = m at *
    have hdiv : (s.get! i).toNat / 32 < 8 := by omega
    generalize hM : (s.get! i).toNat / 32 = M at *
    generalize hNN : ahN s i = n at *
    have hneg : decide ((i : Int) + 1 + m < 0) = false := decide_eq_false (by omega)
    have hsz : (str L).size = L.length := size_str L
    by_cases hok : ghOk s (i : Int)
    · have hl := HK.out.1 hok
      have HY := Lib.hid (HG.out.trans (if_pos hok))
      have ht : (((str L).size : Int) == (i : Int) + 1 + m - i) = true := by rw [hsz, beq_iff_eq]; omega
      have ht2 : (((str L).size : Int) != (i : Int) + 1 + m - i) = false := by rw [bne, ht]; rfl
      clear hok hl HG HK
      go_wp2_with (go_at_call 19; refine (implPutHead _ _ _ hN).mono ?_; rintro e w2 ⟨rfl, hb2⟩; rw [HP.out])
      go_ret3
      exact ⟨(congrArg Ending.returned HY.out).symm, hb1.trans (hb2.mono hb1.size)⟩
    · have hl : ¬ L.length = 1 + m := fun h => hok (HK.out.2 h)
      have HY := Lib.hid (HG.out.trans (if_neg hok))
      have ht : (((str L).size : Int) == (i : Int) + 1 + m - i) = false := by rw [hsz, beq_eq_false_iff_ne]; omega
      have ht2 : (((str L).size : Int) != (i : Int) + 1 + m - i) = true := by rw [bne, ht]; rfl
      clear hok hl HG HK
      go_wp2_with (go_at_call 19; refine (implPutHead _ _ _ hN).mono ?_; rintro e w2 ⟨rfl, hb2⟩; rw [HP.out])
      go_ret3
      exact ⟨(congrArg Ending.returned HY.out).symm, hb1.trans (hb2.mono hb1.size)⟩
  · have HR := Lib.hid (ahRet_no hA)
    have HG : Hid (ghRet s i = .tuple #[.int .i64 (-1), .int .u64 0, .int .i64 (-1)]) := Lib.hid (by unfold ghRet; rw [if_neg (fun h => hA h.1)])
    go_enter Try.func14, Try.ntmps14
    go_wp2_with fail
    refine (anyHead s i _ hs).mono ?_
    rintro e w1 ⟨rfl, hb1⟩
    rw [HR.out]
    go_wp2_with fail
    go_ret3
    exact ⟨(congrArg Ending.returned HG.out).symm, hb1⟩
end Go.Proofs.Ytmfogabkpeoagaa
