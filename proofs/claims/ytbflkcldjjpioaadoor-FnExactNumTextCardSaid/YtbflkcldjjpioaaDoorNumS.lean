/-
  The reference's test of a number, and Whole.
-/
import Derived.Test.YtbflkcldjjpioaaDoorNumP
import Derived.Test.YtbflkcldjjpioaaDoorRightR
namespace Go.Proofs.YtbflkcldjjpioaaDoor
open Go.RowKit
set_option linter.unusedVariables false
set_option linter.unusedSimpArgs false
set_option maxRecDepth 100000

set_option maxHeartbeats 2000000 in
theorem specIs (v : V) (A : Option Addr) (cap : Nat) (w : World) (hw : v.weight ≤ 1048576) (hat : Vs.at_ w 0 w.heap.size v.kids A) :
    Calls Tryd.prog 30 #[v.agg A cap] w fun e w' => e = .returned (.bool (decide (numOk v))) ∧ Below w.heap.size w w' := by
  have HA := Lib.hid hat
  clear hat
  rcases (show ((v.k == 3) = true ∧ (v.k = 3 ∨ v.k = 4)) ∨ ((v.k == 3) = false ∧ (v.k == 4) = true ∧ (v.k = 3 ∨ v.k = 4)) ∨ ((v.k == 3) = false ∧ (v.k == 4) = false ∧ ¬ (v.k = 3 ∨ v.k = 4)) by
    by_cases h3 : v.k = 3
    · exact .inl ⟨by rw [h3]; rfl, .inl h3⟩
    · by_cases h4 : v.k = 4
      · exact .inr (.inl ⟨by simpa using h3, by rw [h4]; rfl, .inr h4⟩)
      · exact .inr (.inr ⟨by simpa using h3, by simpa using h4, fun h => h.elim h3 h4⟩)) with ⟨q3, hk⟩ | ⟨q3, q4, hk⟩ | ⟨q3, q4, hk⟩
  iterate 2
    have HK : Hid (okV v ↔ numOk v) := Lib.hid ⟨fun h => ⟨hk, h⟩, fun h => h.2⟩
    clear hk
    unfold V.agg
    go_enter Tryd.func30, Tryd.ntmps30
    go_wp2_with fail
    have b0 : Below w.heap.size w (w.alloc (.cells #[.int .i64 v.k, .int .i64 v.n, .int .i64 v.e, .string v.s, .slice A v.kids.length cap] 34)) := (Below.refl _ w).alloc (Nat.le_refl _) _
    refine (specValueOk v A cap _ hw (Vs.at_more (Nat.le_refl _) b0.size _ _ (Vs.at_below HA.out b0 (Nat.le_refl _)))).mono ?_
    rintro e w1 ⟨rfl, hb1⟩
    go_wp2_with fail
    go_ret
    exact ⟨ret_bool (decide_eq_decide.2 HK.out), b0.trans (hb1.mono b0.size)⟩
  have HN : Hid (¬ numOk v) := Lib.hid (fun h => hk h.1)
  clear hk
  unfold V.agg
  go_enter Tryd.func30, Tryd.ntmps30
  go_wp2_with fail
  go_ret
  exact ⟨ret_bool (decide_eq_false HN.out).symm, (Below.refl _ _).alloc (Nat.le_refl _) _⟩
theorem tup_ib {a a' : Int} {b b' : Bool} (h1 : a = a') (h2 : b = b') : Ending.returned (.tuple #[.int .i64 a, .bool b]) = Ending.returned (.tuple #[.int .i64 a', .bool b']) := by rw [h1, h2]
theorem pow_div_small {n : Int} (h : -9223372036854775808 ≤ n ∧ n ≤ 9223372036854775807) (j : Nat) : -9223372036854775808 ≤ n / 10 ^ j ∧ n / 10 ^ j ≤ 9223372036854775807 := by
  have hp : (1 : Int) ≤ 10 ^ j := by have : (0 : Int) < 10 ^ j := Int.pow_pos (by omega); omega
  constructor
  · refine Int.le_ediv_of_mul_le (by omega) ?_
    have h2 := Int.mul_nonneg (show (0 : Int) ≤ 9223372036854775808 by omega) (show (0 : Int) ≤ 10 ^ j - 1 by omega)
    rw [Int.mul_sub] at h2
    omega
  · by_cases h0 : 0 ≤ n
    · have := Int.ediv_le_self (10 ^ j) h0; omega
    · have : n / 10 ^ j ≤ 0 := by
        have h3 := Int.ediv_neg_of_neg_of_pos (a := n) (b := 10 ^ j) (by omega) (by omega)
        omega
      omega

set_option maxHeartbeats 4000000 in
theorem specWholeV (v : V) (A : Option Addr) (cap : Nat) (w : World) (hf : v.fits) (hw : v.weight ≤ 1048576) (hat : Vs.at_ w 0 w.heap.size v.kids A) :
    Calls Tryd.prog 14 #[v.agg A cap] w fun e w' => e = .returned (.tuple #[.int .i64 (wholeN v), .bool (wholeB v)]) ∧ Below w.heap.size w w' := by
  have HA := Lib.hid hat
  have hf3 := (V.fits_eq v).1 hf
  have hn := hf3.2.2.2.2.1
  have he := hf3.2.2.2.2.2
  unfold inI at hn he
  clear hat hf hf3
  unfold V.agg
  go_enter Tryd.func14, Tryd.ntmps14
  go_wp2_with fail
  have b0 : Below w.heap.size w (w.alloc (.cells #[.int .i64 v.k, .int .i64 v.n, .int .i64 v.e, .string v.s, .slice A v.kids.length cap] 34)) := (Below.refl _ w).alloc (Nat.le_refl _) _
  refine (specIs v A cap _ hw (Vs.at_more (Nat.le_refl _) b0.size _ _ (Vs.at_below HA.out b0 (Nat.le_refl _)))).mono ?_
  rintro e w1 ⟨rfl, hb1⟩
  obtain ⟨p0, p1, p2, p3, p4⟩ := ((Blk.new w 34 #[.int .i64 v.k, .int .i64 v.n, .int .i64 v.e, .string v.s, .slice A v.kids.length cap]).below hb1 (by simp)).five
  have b1 : Below w.heap.size w w1 := b0.trans (hb1.mono b0.size)
  clear b0 hb1
  by_cases hnum : numOk v
  · rw [show decide (numOk v) = true from decide_eq_true hnum]
    by_cases hpos : 0 < v.e
    · have q : decide (0 < v.e) = true := decide_eq_true hpos
      have HR := Lib.hid (whole_no (v := v) (fun h => h.2 hpos))
      clear hnum
      go_wp2_with fail
      go_ret2
      exact ⟨tup_ib HR.out.2.symm HR.out.1.symm, b1⟩
    · have q : decide (0 < v.e) = false := decide_eq_false hpos
      have HR := Lib.hid (whole_yes (v := v) ⟨hnum, hpos⟩)
      have hle := okV_leaf hnum
      have hlow : -20 ≤ v.e := by
        rcases hnum.1 with h | h
        · have := hle.2.2.1 h; omega
        · exact (hle.2.2.2 h).1
      obtain ⟨K, hK⟩ : ∃ K : Nat, (-v.e).toNat = K := ⟨_, rfl⟩
      have hK1 : v.e ≤ -(K : Int) := by omega
      have hK2 : -(K : Int) ≤ v.e := by omega
      have hK20 : K ≤ 20 := by omega
      rw [hK] at HR
      have HK := Lib.hid hK
      clear hnum hle hK
      go_wp2_with fail
      go_loop [4, 5] (fun z y => ∃ j : Nat, j ≤ K ∧ z = .int .i64 (v.n / 10 ^ j) ∧ y = .int .i64 (v.e + j)) (fun _ y => (-(intOf y)).toNat)
      case atStart => exact ⟨0, Nat.zero_le _, by simp, by simp⟩
      case round =>
        obtain ⟨j, hj, rfl, rfl⟩ := hrel
        by_cases hlt : j < K
        · obtain ⟨x, hx⟩ : ∃ x, v.n / 10 ^ j = x := ⟨_, rfl⟩
          have hxr := pow_div_small hn j
          have hst := ten_div v.n j
          have hfl := floor_ten x
          rw [hx] at hxr hst ⊢
          have HST := Lib.hid hst
          have hmr := Int.tmod_add_mul_tdiv x 10
          have hq1 : -9223372036854775808 < Int.tdiv x 10 ∧ Int.tdiv x 10 ≤ 9223372036854775807 := by omega
          clear hx hst hmr
          have qe : decide (v.e + (j : Int) < 0) = true := decide_eq_true (by omega)
          by_cases hneg : Int.tmod x 10 < 0
          · have qn : decide (Int.tmod x 10 < 0) = true := decide_eq_true hneg
            have HF := Lib.hid (hfl.1 hneg)
            clear hfl hneg
            go_wp2_with fail
            go_round
            case rel => exact ⟨j + 1, by omega, congrArg (Value.int .i64) (HF.out.trans HST.out), by go_num⟩
            case measure => simp [intOf]; omega
          · have qn : decide (Int.tmod x 10 < 0) = false := decide_eq_false hneg
            have HF := Lib.hid (hfl.2 hneg)
            clear hfl hneg
            go_wp2_with fail
            go_round
            case rel => exact ⟨j + 1, by omega, congrArg (Value.int .i64) (HF.out.trans HST.out), by go_num⟩
            case measure => simp [intOf]; omega
        · obtain rfl : j = K := by omega
          have qe : decide (v.e + (j : Int) < 0) = false := decide_eq_false (by omega)
          go_wp2_with fail
          go_ret2
          exact ⟨tup_ib HR.out.2.symm HR.out.1.symm, b1⟩
  · rw [show decide (numOk v) = false from decide_eq_false hnum]
    have HR := Lib.hid (whole_no (v := v) (fun h => hnum h.1))
    clear hnum
    go_wp2_with fail
    go_ret2
    exact ⟨tup_ib HR.out.2.symm HR.out.1.symm, b1⟩
end Go.Proofs.YtbflkcldjjpioaaDoor
