/-
  ReadDec of the reference.
-/
import Derived.Test.YtbflkcldjjpioaaDoorDecS
import Derived.Test.YtbflkcldjjpioaaDoorPiece
namespace Go.Proofs.YtbflkcldjjpioaaDoor
open Go.RowKit
set_option linter.unusedVariables false

theorem i64r (n : Int) : -9223372036854775808 ≤ wrap64 n ∧ wrap64 n ≤ 9223372036854775807 := by rw [wrap64_eq]; omega
/-- A text that no number of 64 bits is written as. -/
def NoDec (s : ByteArray) : Prop := ∀ v : Int, -9223372036854775808 ≤ v ∧ v ≤ 9223372036854775807 → str (Lib.itoa v) ≠ s
theorem ba_list (x y : ByteArray) : (x.toList == y.toList) = decide (x = y) := by
  rw [Bool.eq_iff_iff, decide_eq_true_iff, beq_iff_eq, ByteArray.toList_eq, ByteArray.toList_eq]
  constructor
  · intro h
    apply ByteArray.ext
    exact Array.toList_inj.1 h
  · intro h; rw [h]
theorem ne_of_size {x y : ByteArray} (h : x.size ≠ y.size) : (x.toList == y.toList) = false := by
  rw [ba_list]; exact decide_eq_false (fun e => h (by rw [e]))
theorem wz (D b : Nat) (hb : 48 ≤ b) : wrap64 (wrap64 (10 * (D : Int) + b) - 48) = wrap64 ((10 * D + (b - 48) : Nat) : Int) := by
  rw [show ((10 * D + (b - 48) : Nat) : Int) = 10 * (D : Int) + b - 48 by omega]
  generalize 10 * (D : Int) + b = x
  simp only [wrap64_eq]
  omega
theorem tup2b {a a' : Int} {b b' : Bool} (h1 : a = a') (h2 : b = b') : Ending.returned (.tuple #[.int .i64 a, .bool b]) = Ending.returned (.tuple #[.int .i64 a', .bool b']) := by rw [h1, h2]
theorem str_at (l : List UInt8) (j : Nat) (h : j < (str l).size) : (str l)[j] = l[j]'(by rw [strlen] at h; exact h) := rfl
theorem dval_take (l : List UInt8) (j : Nat) (h : j < (str l).size) : dval (l.take (j + 1)) = 10 * dval (l.take j) + ((str l)[j].toNat - 48) := by
  have hl : j < l.length := by rw [strlen] at h; exact h
  rw [List.take_succ_eq_append_getElem hl, dval_snoc, str_at]
theorem dval_mono (l : List UInt8) (j : Nat) (h : j < (str l).size) : 10 * dval (l.take j) ≤ dval l := by
  have hl : j < l.length := by rw [strlen] at h; exact h
  have hm : ∀ (r : List UInt8) (a : Nat), a ≤ r.foldl (fun n b => 10 * n + (b.toNat - 48)) a := by
    intro r
    induction r with
    | nil => intro a; exact Nat.le_refl _
    | cons x r ih2 => intro a; rw [List.foldl_cons]; exact Nat.le_trans (by omega) (ih2 _)
  have e : l = l.take j ++ (l[j] :: l.drop (j + 1)) := by rw [← List.drop_eq_getElem_cons hl, List.take_append_drop]
  conv => rhs; rw [e]
  unfold dval
  rw [List.foldl_append, List.foldl_cons]
  exact Nat.le_trans (by omega) (hm _ _)

set_option maxHeartbeats 2000000 in
theorem specReadDec_noE (s : ByteArray) (w : World) (hs : s.size ≤ 1048576) (hno : NoDec s) (h0 : s.size = 0) :
    Calls Tryd.prog 11 #[.string s] w fun e w' => e = .returned (.tuple #[.int .i64 0, .bool false]) ∧ w = w' := by
  have HN := Lib.hid hno
  clear hno
  go_enter Tryd.func11, Tryd.ntmps11
  go_wp2_with fail
  go_loop [5, 6] (fun n k => ∃ (j : Nat) (z : Int), j ≤ s.size ∧ k = .int .i64 j ∧ n = .int .i64 z ∧ -9223372036854775808 ≤ z ∧ z ≤ 9223372036854775807) (fun _ k => s.size - (intOf k).toNat)
  case atStart => exact ⟨0, 0, by omega, rfl, rfl, by omega, by omega⟩
  case round =>
    obtain ⟨j, z, hj, rfl, rfl, hz1, hz2⟩ := hrel
    by_cases hlt : j < s.size
    · exact absurd hlt (by omega)
    · obtain rfl : j = s.size := by omega
      have hrng : -9223372036854775808 ≤ z ∧ z ≤ 9223372036854775807 := ⟨hz1, hz2⟩
      have ht : ((str (Lib.itoa z)).toList == s.toList) = false := by rw [ba_list]; exact decide_eq_false (HN.out _ hrng)
      go_wp2_with fail
      all_goals first
        | (go_ret2; exact ⟨rfl, rfl⟩)
        | (refine (specDecText _ _ hrng).mono ?_
           rintro e w1 ⟨rfl, rfl⟩
           go_wp2_with fail
           go_ret2
           exact ⟨rfl, rfl⟩)

set_option maxHeartbeats 2000000 in
theorem specReadDec_noP (s : ByteArray) (w : World) (hs : s.size ≤ 1048576) (hno : NoDec s) (h0 : 0 < s.size) (h45 : ¬ s[0].toNat = 45) :
    Calls Tryd.prog 11 #[.string s] w fun e w' => e = .returned (.tuple #[.int .i64 0, .bool false]) ∧ w = w' := by
  have HN := Lib.hid hno
  clear hno
  have h45b : ((s[0].toNat : Int) == 45) = false := by rw [beq_eq_false_iff_ne]; omega
  go_enter Tryd.func11, Tryd.ntmps11
  go_wp2_with fail
  go_loop [5, 6] (fun n k => ∃ (j : Nat) (z : Int), j ≤ s.size ∧ k = .int .i64 j ∧ n = .int .i64 z ∧ -9223372036854775808 ≤ z ∧ z ≤ 9223372036854775807) (fun _ k => s.size - (intOf k).toNat)
  case atStart => exact ⟨0, 0, by omega, rfl, rfl, by omega, by omega⟩
  case round =>
    obtain ⟨j, z, hj, rfl, rfl, hz1, hz2⟩ := hrel
    by_cases hlt : j < s.size
    · have hu : s[j].toNat < 256 := UInt8.toNat_lt _
      by_cases hd : 48 ≤ s[j].toNat ∧ s[j].toNat ≤ 57
      · have hd1 : decide ((48 : Int) ≤ s[j].toNat) = true := decide_eq_true (by omega)
        have hd2 : decide ((s[j].toNat : Int) ≤ 57) = true := decide_eq_true (by omega)
        by_cases hl : s.size ≤ 19
        · go_wp2_with (go_at_call 27; go_in)
          go_round
          case rel => exact ⟨j + 1, _, by omega, by go_num, rfl, (i64r _).1, (i64r _).2⟩
          case measure => simp [intOf]; omega
        · go_wp2_with (go_at_call 27; go_in)
          go_ret2
          exact ⟨rfl, rfl⟩
      · rcases (show decide ((48 : Int) ≤ s[j].toNat) = false ∨ (decide ((48 : Int) ≤ s[j].toNat) = true ∧ decide ((s[j].toNat : Int) ≤ 57) = false) by simp; omega) with hc | hc
        all_goals
          clear hd
          go_wp2_with (go_at_call 27; go_in)
          go_ret2
          exact ⟨rfl, rfl⟩
    · obtain rfl : j = s.size := by omega
      have hrng : -9223372036854775808 ≤ z ∧ z ≤ 9223372036854775807 := ⟨hz1, hz2⟩
      have ht : ((str (Lib.itoa z)).toList == s.toList) = false := by rw [ba_list]; exact decide_eq_false (HN.out _ hrng)
      go_wp2_with fail
      all_goals first
        | (go_ret2; exact ⟨rfl, rfl⟩)
        | (refine (specDecText _ _ hrng).mono ?_
           rintro e w1 ⟨rfl, rfl⟩
           go_wp2_with fail
           go_ret2
           exact ⟨rfl, rfl⟩)

set_option maxHeartbeats 2000000 in
theorem specReadDec_noM (s : ByteArray) (w : World) (hs : s.size ≤ 1048576) (hno : NoDec s) (h0 : 0 < s.size) (h45 : s[0].toNat = 45) :
    Calls Tryd.prog 11 #[.string s] w fun e w' => e = .returned (.tuple #[.int .i64 0, .bool false]) ∧ w = w' := by
  have HN := Lib.hid hno
  clear hno
  have h45b : ((s[0].toNat : Int) == 45) = true := by rw [beq_iff_eq]; omega
  have htz : (s.extract 1 s.size).size = s.size - 1 := by rw [ByteArray.size_extract]; omega
  go_enter Tryd.func11, Tryd.ntmps11
  go_wp2_with fail
  generalize hT : s.extract 1 s.size = t at *
  have hts : (t.toList == s.toList) = false := ne_of_size (by omega)
  go_loop [5, 6] (fun n k => ∃ (j : Nat) (z : Int), j ≤ t.size ∧ k = .int .i64 j ∧ n = .int .i64 z ∧ -9223372036854775808 ≤ z ∧ z ≤ 9223372036854775807) (fun _ k => t.size - (intOf k).toNat)
  case atStart => exact ⟨0, 0, by omega, rfl, rfl, by omega, by omega⟩
  case round =>
    obtain ⟨j, z, hj, rfl, rfl, hz1, hz2⟩ := hrel
    by_cases hlt : j < t.size
    · have hu : t[j].toNat < 256 := UInt8.toNat_lt _
      by_cases hd : 48 ≤ t[j].toNat ∧ t[j].toNat ≤ 57
      · have hd1 : decide ((48 : Int) ≤ t[j].toNat) = true := decide_eq_true (by omega)
        have hd2 : decide ((t[j].toNat : Int) ≤ 57) = true := decide_eq_true (by omega)
        by_cases hl : t.size ≤ 19
        · go_wp2_with (go_at_call 27; go_in)
          go_round
          case rel => exact ⟨j + 1, _, by omega, by go_num, rfl, (i64r _).1, (i64r _).2⟩
          case measure => simp [intOf]; omega
        · go_wp2_with (go_at_call 27; go_in)
          go_ret2
          exact ⟨rfl, rfl⟩
      · rcases (show decide ((48 : Int) ≤ t[j].toNat) = false ∨ (decide ((48 : Int) ≤ t[j].toNat) = true ∧ decide ((t[j].toNat : Int) ≤ 57) = false) by simp; omega) with hc | hc
        all_goals
          clear hd
          go_wp2_with (go_at_call 27; go_in)
          go_ret2
          exact ⟨rfl, rfl⟩
    · obtain rfl : j = t.size := by omega
      have hrng : -9223372036854775808 ≤ (wrap64 (-z)) ∧ (wrap64 (-z)) ≤ 9223372036854775807 := i64r _
      have ht : ((str (Lib.itoa (wrap64 (-z)))).toList == s.toList) = false := by rw [ba_list]; exact decide_eq_false (HN.out _ hrng)
      go_wp2_with fail
      all_goals first
        | (go_ret2; exact ⟨rfl, rfl⟩)
        | (refine (specDecText _ _ hrng).mono ?_
           rintro e w1 ⟨rfl, rfl⟩
           go_wp2_with fail
           go_ret2
           exact ⟨rfl, rfl⟩)

set_option maxHeartbeats 2000000 in
theorem specReadDec_yesP (u : Nat) (w : World) (hu : u < 9223372036854775808) :
    Calls Tryd.prog 11 #[.string (str (Lib.itoa (u : Int)))] w fun e w' => e = .returned (.tuple #[.int .i64 (u : Int), .bool true]) ∧ w = w' := by
  have HV := Lib.hid (dval_dec u)
  have hlen := dec_len u (by omega)
  have hne := dec_ne u
  have HD := Lib.hid (dec_digit u)
  have HI : Hid (Lib.itoa (u : Int) = Lib.decDigits u) := Lib.hid (itoa_pos u)
  have HT : Hid (((str (Lib.itoa (u : Int))).toList == (str (Lib.itoa (u : Int))).toList) = true) := Lib.hid (by simp)
  rw [HI.out] at HT ⊢
  generalize Lib.decDigits u = l at *
  have hpos : 0 < l.length := List.length_pos_iff.2 hne
  clear hne
  have hs : (str l).size = l.length := strlen l
  have h45 : ¬ ((str l)[0]'(by omega)).toNat = 45 := by
    rw [str_at]
    have := HD.out l[0] (List.getElem_mem _)
    omega
  have h45b : ((((str l)[0]'(by omega)).toNat : Int) == 45) = false := by rw [beq_eq_false_iff_ne]; omega
  have hts : ((str l).toList == (str l).toList) = true := by simp
  have hte : ((str l).toList == (⟨#[]⟩ : ByteArray).toList) = false := ne_of_size (by rw [hs]; show _ ≠ 0; omega)
  have hte2 : ((str l).toList = []) = False := by rw [ByteArray.toList_eq]; simp [str]; intro h; rw [h] at hpos; simp at hpos
  have hte3 : (str l).toList.isEmpty = false := by rw [List.isEmpty_eq_false_iff]; intro h; exact hte2.mp h
  have HB : Hid (∀ (j : Nat) (h : j < (str l).size), 48 ≤ (str l)[j].toNat ∧ (str l)[j].toNat ≤ 57) := Lib.hid (fun j h => by rw [str_at]; exact HD.out _ (List.getElem_mem _))
  have HK : Hid (∀ (j : Nat) (h : j < (str l).size), dval (l.take (j + 1)) = 10 * dval (l.take j) + ((str l)[j].toNat - 48)) := Lib.hid (dval_take l)
  have HM : Hid (∀ (j : Nat) (h : j < (str l).size), 10 * dval (l.take j) ≤ u) := Lib.hid (fun j h => by rw [← HV.out]; exact dval_mono l j h)
  have HZ : Hid (dval (l.take (str l).size) = u) := Lib.hid (by rw [strlen, List.take_length]; exact HV.out)
  go_enter Tryd.func11, Tryd.ntmps11
  go_wp2_with fail
  go_loop [5, 6] (fun n k => ∃ (j : Nat), j ≤ (str l).size ∧ k = .int .i64 j ∧ n = .int .i64 (wrap64 (dval (l.take j) : Nat))) (fun _ k => (str l).size - (intOf k).toNat)
  case atStart => exact ⟨0, by omega, rfl, by show Value.int .i64 0 = .int .i64 (wrap64 0); rw [wrap64_eq]; rfl⟩
  case round =>
    obtain ⟨j, hj, rfl, rfl⟩ := hrel
    by_cases hlt : j < (str l).size
    · have hu2 : (str l)[j].toNat < 256 := UInt8.toNat_lt _
      have hd := HB.out j hlt
      have hd1 : decide ((48 : Int) ≤ (str l)[j].toNat) = true := decide_eq_true (by omega)
      have hd2 : decide (((str l)[j].toNat : Int) ≤ 57) = true := decide_eq_true (by omega)
      have hM := HM.out j hlt
      have HKj := Lib.hid (HK.out j hlt)
      generalize dval (l.take j) = D at *
      rw [show wrap64 (D : Int) = D by rw [wrap64_eq]; omega]
      go_wp2_with (go_at_call 27; go_in)
      go_round
      case rel => exact ⟨j + 1, by omega, by go_num, by rw [HKj.out]; exact congrArg (Value.int .i64) (wz D _ hd.1)⟩
      case measure => simp [intOf]; omega
    · obtain rfl : j = (str l).size := by omega
      rw [HZ.out]
      have hwz : wrap64 (u : Int) = (u : Int) := by simp only [wrap64_eq]; omega
      rw [hwz]
      have hx : ((str (Lib.itoa (u : Int))).toList == (str (l)).toList) = true := by rw [HI.out]; exact HT.out
      go_wp2_with fail
      refine (specDecText _ _ (by omega)).mono ?_
      rintro e w1 ⟨rfl, rfl⟩
      go_wp2_with fail
      all_goals go_ret2
      all_goals first
        | exact ⟨rfl, rfl⟩
        | (have hq : (!(str (Lib.itoa (u : Int))).toList == (str (l)).toList) = true := by assumption
           rw [hx] at hq; cases hq)

set_option maxHeartbeats 2000000 in
theorem specReadDec_yesM (u : Nat) (w : World) (h0 : 0 < u) (hu : u ≤ 9223372036854775808) :
    Calls Tryd.prog 11 #[.string (str (Lib.itoa (-(u : Int))))] w fun e w' => e = .returned (.tuple #[.int .i64 (-(u : Int)), .bool true]) ∧ w = w' := by
  have HV := Lib.hid (dval_dec u)
  have hlen := dec_len u (by omega)
  have hne := dec_ne u
  have HD := Lib.hid (dec_digit u)
  have HI : Hid (Lib.itoa (-(u : Int)) = 45 :: Lib.decDigits u) := Lib.hid (itoa_neg u h0)
  have HT : Hid (((str (Lib.itoa (-(u : Int)))).toList == (str (Lib.itoa (-(u : Int)))).toList) = true) := Lib.hid (by simp)
  rw [HI.out] at HT ⊢
  generalize Lib.decDigits u = l at *
  have hpos : 0 < l.length := List.length_pos_iff.2 hne
  clear hne
  have HE : Hid ((str (45 :: l)).extract 1 (l.length + 1) = str l) := Lib.hid (by
    apply ByteArray.ext
    simp [str])
  have hs : (str (45 :: l)).size = l.length + 1 := by rw [strlen]; rfl
  have h45 : ((str (45 :: l))[0]'(by omega)).toNat = 45 := by rw [str_at]; rfl
  have h45b : ((((str (45 :: l))[0]'(by omega)).toNat : Int) == 45) = true := by rw [beq_iff_eq]; omega
  have hs2 : (str l).size = l.length := strlen l
  have hts : ((str l).toList == (str (45 :: l)).toList) = false := ne_of_size (by omega)
  have hte : ((str l).toList == (⟨#[]⟩ : ByteArray).toList) = false := ne_of_size (by rw [hs2]; show _ ≠ 0; omega)
  have hte2 : ((str l).toList = []) = False := by rw [ByteArray.toList_eq]; simp [str]; intro h; rw [h] at hpos; simp at hpos
  have hte3 : (str l).toList.isEmpty = false := by rw [List.isEmpty_eq_false_iff]; intro h; exact hte2.mp h
  have HB : Hid (∀ (j : Nat) (h : j < (str l).size), 48 ≤ (str l)[j].toNat ∧ (str l)[j].toNat ≤ 57) := Lib.hid (fun j h => by rw [str_at]; exact HD.out _ (List.getElem_mem _))
  have HK : Hid (∀ (j : Nat) (h : j < (str l).size), dval (l.take (j + 1)) = 10 * dval (l.take j) + ((str l)[j].toNat - 48)) := Lib.hid (dval_take l)
  have HM : Hid (∀ (j : Nat) (h : j < (str l).size), 10 * dval (l.take j) ≤ u) := Lib.hid (fun j h => by rw [← HV.out]; exact dval_mono l j h)
  have HZ : Hid (dval (l.take (str l).size) = u) := Lib.hid (by rw [strlen, List.take_length]; exact HV.out)
  go_enter Tryd.func11, Tryd.ntmps11
  go_wp2_with fail
  rw [HE.out]
  go_loop [5, 6] (fun n k => ∃ (j : Nat), j ≤ (str l).size ∧ k = .int .i64 j ∧ n = .int .i64 (wrap64 (dval (l.take j) : Nat))) (fun _ k => (str l).size - (intOf k).toNat)
  case atStart => exact ⟨0, by omega, rfl, by show Value.int .i64 0 = .int .i64 (wrap64 0); rw [wrap64_eq]; rfl⟩
  case round =>
    obtain ⟨j, hj, rfl, rfl⟩ := hrel
    by_cases hlt : j < (str l).size
    · have hu2 : (str l)[j].toNat < 256 := UInt8.toNat_lt _
      have hd := HB.out j hlt
      have hd1 : decide ((48 : Int) ≤ (str l)[j].toNat) = true := decide_eq_true (by omega)
      have hd2 : decide (((str l)[j].toNat : Int) ≤ 57) = true := decide_eq_true (by omega)
      have hM := HM.out j hlt
      have HKj := Lib.hid (HK.out j hlt)
      generalize dval (l.take j) = D at *
      rw [show wrap64 (D : Int) = D by rw [wrap64_eq]; omega]
      go_wp2_with (go_at_call 27; go_in)
      go_round
      case rel => exact ⟨j + 1, by omega, by go_num, by rw [HKj.out]; exact congrArg (Value.int .i64) (wz D _ hd.1)⟩
      case measure => simp [intOf]; omega
    · obtain rfl : j = (str l).size := by omega
      rw [HZ.out]
      have hwz : wrap64 (-(wrap64 (u : Int))) = -(u : Int) := by simp only [wrap64_eq]; omega
      have hx : ((str (Lib.itoa (-(u : Int)))).toList == (str (45 :: l)).toList) = true := by rw [HI.out]; exact HT.out
      go_wp2_with fail
      refine (specDecText _ _ (by omega)).mono ?_
      rintro e w1 ⟨rfl, rfl⟩
      go_wp2_with fail
      all_goals go_ret2
      all_goals first
        | exact ⟨rfl, rfl⟩
        | (have hq : (!(str (Lib.itoa (-(u : Int)))).toList == (str (45 :: l)).toList) = true := by assumption
           rw [hx] at hq; cases hq)
end Go.Proofs.YtbflkcldjjpioaaDoor
