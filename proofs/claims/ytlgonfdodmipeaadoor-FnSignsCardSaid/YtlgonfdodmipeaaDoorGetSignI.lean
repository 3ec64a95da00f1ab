/-
  GetSign of the program: the sign at a place, as the model's own decoder reads it; the library's two tables lie as they were laid.
-/
import Derived.Test.YtlgonfdodmipeaaDoorGetSign
import Derived.Test.YtlgonfdodmipeaaDoorTabs
import Derived.Test.YtlgonfdodmipeaaDoorShelf
import Derived.Lib.RuneCountTail
namespace Go.Proofs.YtlgonfdodmipeaaDoor
open Go.RowKit
set_option linter.unusedVariables false

theorem dec_at (s : ByteArray) (i : Nat) (h : i < s.size) : Lib.decodeGo (s.extract i s.size) = Utf8.decode s i := by
  unfold Lib.decodeGo
  rw [if_neg (by rw [Lib.tail_size]; omega), Lib.tail_decode]
  rfl
set_option maxHeartbeats 1000000 in
theorem implGetSign (s : ByteArray) (i : Int) (w : World) (hs : s.size ≤ 1048576) (hi : -9223372036854775808 ≤ i ∧ i ≤ 9223372036854775807) (hT : Tabs w) :
    Calls Tryd.prog 13 #[.string s, .int .i64 i] w fun e w' => e = .returned (.tuple #[.int .i64 (gsN s i), .int .i64 (gsE s i)]) ∧ Below w.heap.size w w' := by
  by_cases h0 : 0 ≤ i
  · obtain ⟨i, rfl⟩ := Int.eq_ofNat_of_zero_le h0
    by_cases h1 : i < s.size
    · have HD := Lib.hid (dec_at s i h1)
      have hw := dec_w s i
      have HT := Lib.hid hT
      clear hT
      have hle : decide ((i : Int) ≤ (s.size : Int) - 1) = true := by simp; omega
      by_cases hok : gsOk s (i : Int)
      · have HY := Lib.hid (gs_yes' hok)
        have hok' := hok
        unfold gsOk at hok'
        rw [Int.toNat_natCast] at hok'
        go_enter Tryd.func13, Tryd.ntmps13
        by_cases hr : (Utf8.decode s i).1 = 65533
        · have hr1 : (((Utf8.decode s i).1 : Int) == 65533) = true := by simp; omega
          have hr2 : decide (((Utf8.decode s i).2 : Int) < 3) = false := by simp; omega
          have HR := Lib.hid hr
          clear hok' hr
          go_wp2_with (first | (go_at_call 33; go_in) | fail)
          refine (Tryd.utf8_DecodeRuneInString _ w HT.out).mono ?_
          rintro e w1 ⟨rfl, hb1⟩
          rw [HD.out]
          generalize Utf8.decode s i = d at *
          go_wp2_with fail
          go_ret2
          exact ⟨tup2 HY.out.1.symm HY.out.2.symm, hb1⟩
        · have hr1 : (((Utf8.decode s i).1 : Int) == 65533) = false := by simp; omega
          have HR := Lib.hid hr
          clear hok' hr
          go_wp2_with (first | (go_at_call 33; go_in) | fail)
          refine (Tryd.utf8_DecodeRuneInString _ w HT.out).mono ?_
          rintro e w1 ⟨rfl, hb1⟩
          rw [HD.out]
          generalize Utf8.decode s i = d at *
          go_wp2_with fail
          go_ret2
          exact ⟨tup2 HY.out.1.symm HY.out.2.symm, hb1⟩
      · have HN := Lib.hid (gs_no hok)
        have hok' := hok
        unfold gsOk at hok'
        rw [Int.toNat_natCast] at hok'
        have hok2 : (Utf8.decode s i).1 = 65533 ∧ (Utf8.decode s i).2 < 3 := by
          refine Classical.byContradiction fun h => hok' ⟨by omega, by omega, h⟩
        have hr1 : (((Utf8.decode s i).1 : Int) == 65533) = true := by simp; omega
        have hr2 : decide (((Utf8.decode s i).2 : Int) < 3) = true := by simp; omega
        clear hok' hok2
        go_enter Tryd.func13, Tryd.ntmps13
        go_wp2_with (first | (go_at_call 33; go_in) | fail)
        refine (Tryd.utf8_DecodeRuneInString _ w HT.out).mono ?_
        rintro e w1 ⟨rfl, hb1⟩
        rw [HD.out]
        generalize Utf8.decode s i = d at *
        go_wp2_with fail
        go_ret2
        exact ⟨tup2 HN.out.1.symm HN.out.2.symm, hb1⟩
    · have HN := Lib.hid (gs_no (s := s) (i := (i : Int)) (fun h => h1 (by have := h.2.1; omega)))
      have hle : decide ((i : Int) ≤ (s.size : Int) - 1) = false := by simp; omega
      go_enter Tryd.func13, Tryd.ntmps13
      go_wp2_with go_in
      go_ret2
      exact ⟨tup2 HN.out.1.symm HN.out.2.symm, Below.refl _ _⟩
  · have HN := Lib.hid (gs_no (s := s) (i := i) (fun h => h0 h.1))
    go_enter Tryd.func13, Tryd.ntmps13
    go_wp2_with go_in
    go_ret2
    exact ⟨tup2 HN.out.1.symm HN.out.2.symm, Below.refl _ _⟩
end Go.Proofs.YtlgonfdodmipeaaDoor
