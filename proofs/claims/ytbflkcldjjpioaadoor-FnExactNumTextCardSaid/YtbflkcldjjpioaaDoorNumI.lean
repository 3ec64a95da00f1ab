/-
  The program's test of a number, and Whole.
-/
import Derived.Test.YtbflkcldjjpioaaDoorNumS
import Derived.Test.YtbflkcldjjpioaaDoorRightX
namespace Go.Proofs.YtbflkcldjjpioaaDoor
open Go.RowKit
set_option linter.unusedVariables false
set_option linter.unusedSimpArgs false
set_option maxRecDepth 100000

set_option maxHeartbeats 2000000 in
theorem implIs (v : V) (A : Option Addr) (cap : Nat) (w : World) (hw : v.weight ≤ 1048576) (hT : Tabs w) (hat : Vs.at_ w 0 w.heap.size v.kids A) :
    Calls Tryd.prog 32 #[v.agg A cap] w fun e w' => e = .returned (.bool (decide (numOk v))) ∧ Below w.heap.size w w' := by
  have HA := Lib.hid hat
  have HT := Lib.hid hT
  clear hat hT
  rcases (show ((v.k == 3) = true ∧ (v.k = 3 ∨ v.k = 4)) ∨ ((v.k == 3) = false ∧ (v.k == 4) = true ∧ (v.k = 3 ∨ v.k = 4)) ∨ ((v.k == 3) = false ∧ (v.k == 4) = false ∧ ¬ (v.k = 3 ∨ v.k = 4)) by
    by_cases h3 : v.k = 3
    · exact .inl ⟨by rw [h3]; rfl, .inl h3⟩
    · by_cases h4 : v.k = 4
      · exact .inr (.inl ⟨by simpa using h3, by rw [h4]; rfl, .inr h4⟩)
      · exact .inr (.inr ⟨by simpa using h3, by simpa using h4, fun h => h.elim h3 h4⟩)) with ⟨q3, hk⟩ | ⟨q3, q4, hk⟩ | ⟨q3, q4, hk⟩
  iterate 2
    have HK : Hid (okV v ↔ numOk v) := Lib.hid ⟨fun h => ⟨hk, h⟩, fun h => h.2⟩
    clear hk
    unfold V.agg
    go_enter Tryd.func32, Tryd.ntmps32
    go_wp2_with fail
    have b0 : Below w.heap.size w (w.alloc (.cells #[.int .i64 v.k, .int .i64 v.n, .int .i64 v.e, .string v.s, .slice A v.kids.length cap] 34)) := (Below.refl _ w).alloc (Nat.le_refl _) _
    refine (implValueOk v A cap _ hw (HT.out.below b0) (Vs.at_more (Nat.le_refl _) b0.size _ _ (Vs.at_below HA.out b0 (Nat.le_refl _)))).mono ?_
    rintro e w1 ⟨rfl, hb1⟩
    go_wp2_with fail
    go_ret
    exact ⟨ret_bool (decide_eq_decide.2 HK.out), b0.trans (hb1.mono b0.size)⟩
  have HN : Hid (¬ numOk v) := Lib.hid (fun h => hk h.1)
  clear hk
  unfold V.agg
  go_enter Tryd.func32, Tryd.ntmps32
  go_wp2_with fail
  go_ret
  exact ⟨ret_bool (decide_eq_false HN.out).symm, (Below.refl _ _).alloc (Nat.le_refl _) _⟩
theorem cutD_small {n : Int} (h : -9223372036854775808 ≤ n ∧ n ≤ 9223372036854775807) (hm : -9223372036854775808 < n) (j : Nat) : -9223372036854775808 < cutD n j ∧ cutD n j ≤ 9223372036854775807 := by
  unfold cutD
  by_cases h0 : 0 ≤ n
  · rw [if_pos h0]
    have h1 := pow_div_small h j
    have h2 : 0 ≤ n / 10 ^ j := Int.ediv_nonneg h0 (Int.le_of_lt (Int.pow_pos (by omega)))
    omega
  · rw [if_neg h0]
    have h1 := pow_div_small (n := -n) (by omega) j
    have h2 : 0 ≤ (-n) / 10 ^ j := Int.ediv_nonneg (by omega) (Int.le_of_lt (Int.pow_pos (by omega)))
    omega
theorem cutD_zero (n : Int) : cutD n 0 = n := by
  unfold cutD
  rw [Int.pow_zero]
  split <;> simp
theorem cutD_range {n : Int} (h : -9223372036854775808 ≤ n ∧ n ≤ 9223372036854775807) (j : Nat) : -9223372036854775808 ≤ cutD n j ∧ cutD n j ≤ 9223372036854775807 := by
  by_cases hm : -9223372036854775808 < n
  · have := cutD_small h hm j; omega
  · obtain rfl : n = -9223372036854775808 := by omega
    cases j with
    | zero => rw [cutD_zero]; omega
    | succ j =>
      unfold cutD
      rw [if_neg (by omega)]
      have h2 : (0 : Int) < 10 ^ j := Int.pow_pos (by omega)
      have h3 : (10 : Int) ^ (j + 1) = 10 ^ j * 10 := Int.pow_succ _ _
      have h5 : (- -9223372036854775808 : Int) / 10 ^ (j + 1) = 9223372036854775808 / 10 / 10 ^ j := by
        rw [h3, Int.mul_comm, ← Int.ediv_ediv_of_nonneg (by omega)]
        rfl
      have h4 := pow_div_small (n := 9223372036854775808 / 10) (by omega) j
      have h6 : (0 : Int) ≤ 9223372036854775808 / 10 / 10 ^ j := Int.ediv_nonneg (by omega) (Int.le_of_lt h2)
      rw [h5]
      omega

set_option maxHeartbeats 8000000 in
theorem implWhole (v : V) (A : Option Addr) (cap : Nat) (w : World) (hf : v.fits) (hw : v.weight ≤ 1048576) (hT : Tabs w) (hat : Vs.at_ w 0 w.heap.size v.kids A) :
    Calls Tryd.prog 16 #[v.agg A cap] w fun e w' => e = .returned (.tuple #[.int .i64 (wholeN v), .bool (wholeB v)]) ∧ Below w.heap.size w w' := by
  have HA := Lib.hid hat
  have HT := Lib.hid hT
  have hf3 := (V.fits_eq v).1 hf
  have hn := hf3.2.2.2.2.1
  have he := hf3.2.2.2.2.2
  unfold inI at hn he
  clear hat hf hf3 hT
  unfold V.agg
  go_enter Tryd.func16, Tryd.ntmps16
  go_wp2_with fail
  have b0 : Below w.heap.size w (w.alloc (.cells #[.int .i64 v.k, .int .i64 v.n, .int .i64 v.e, .string v.s, .slice A v.kids.length cap] 34)) := (Below.refl _ w).alloc (Nat.le_refl _) _
  refine (implIs v A cap _ hw (HT.out.below b0) (Vs.at_more (Nat.le_refl _) b0.size _ _ (Vs.at_below HA.out b0 (Nat.le_refl _)))).mono ?_
  rintro e w1 ⟨rfl, hb1⟩
  obtain ⟨p0, p1, p2, p3, p4⟩ := ((Blk.new w 34 #[.int .i64 v.k, .int .i64 v.n, .int .i64 v.e, .string v.s, .slice A v.kids.length cap]).below hb1 (by simp)).five
  have b1 : Below w.heap.size w w1 := b0.trans (hb1.mono b0.size)
  clear b0 hb1
  by_cases hnum : numOk v
  · rw [show decide (numOk v) = true from decide_eq_true hnum]
    by_cases hpos : 0 < v.e
    · have q : decide (0 < v.e) = true := decide_eq_true hpos
      have HR := Lib.hid (whole_no (v := v) (fun h => h.2 hpos))
      clear hnum
      go_wp2_with fail
      go_ret2
      exact ⟨tup_ib HR.out.2.symm HR.out.1.symm, b1⟩
    · have q : decide (0 < v.e) = false := decide_eq_false hpos
      have HR := Lib.hid (whole_yes (v := v) ⟨hnum, hpos⟩)
      have hle := okV_leaf hnum
      by_cases h3 : v.k = 3
      · have q3 : (v.k == 3) = true := by rw [h3]; rfl
        have HE := Lib.hid (hle.2.2.1 h3)
        clear hnum hle h3
        go_wp2_with fail
        go_ret2
        exact ⟨tup_ib (by rw [HR.out.2, HE.out]; simp) HR.out.1.symm, b1⟩
      · have h4 : v.k = 4 := hnum.1.resolve_left h3
        have q3 : (v.k == 3) = false := by simpa using h3
        have hdec := hle.2.2.2 h4
        have hlow : -20 ≤ v.e := hdec.1
        have HNZ := Lib.hid hdec
        obtain ⟨K, hK⟩ : ∃ K : Nat, (-v.e).toNat = K := ⟨_, rfl⟩
        have hK1 : v.e ≤ -(K : Int) := by omega
        have hK2 : -(K : Int) ≤ v.e := by omega
        have hK20 : K ≤ 20 := by omega
        rw [hK] at HR
        have HK := Lib.hid hK
        clear hnum hle hK hdec h3 h4
        go_wp2_with fail
        go_loop [4, 25] (fun z y => ∃ j : Nat, j ≤ K ∧ z = .int .i64 (cutD v.n j) ∧ y = .int .i64 (j : Int)) (fun _ y => K - (intOf y).toNat)
        case atStart => exact ⟨0, Nat.zero_le _, by rw [cutD_zero], by simp⟩
        case round =>
          obtain ⟨j, hj, rfl, rfl⟩ := hrel
          by_cases hlt : j < K
          · have hst := cutD_step v.n j
            have hxr := cutD_range hn j
            have hyr := cutD_range hn (j + 1)
            rw [← hst] at hyr
            obtain ⟨x, hx⟩ : ∃ x, cutD v.n j = x := ⟨_, rfl⟩
            rw [hx] at hst hxr hyr ⊢
            have HST := Lib.hid hst
            have qe : decide ((j : Int) < -v.e) = true := decide_eq_true (by omega)
            clear hst hx
            go_wp2_with fail
            go_round
            case rel => exact ⟨j + 1, by omega, congrArg (Value.int .i64) HST.out, by go_num⟩
            case measure => simp [intOf]; omega
          · obtain rfl : j = K := by omega
            have qe : decide ((j : Int) < -v.e) = false := decide_eq_false (by omega)
            have hxr := cutD_range hn j
            have HD := Lib.hid (show (1 ≤ j) → (if v.n < 0 then cutD v.n j - 1 else cutD v.n j) = v.n / 10 ^ j from fun h => dec_floor h HNZ.out.2.2.2.2.2.1)
            have hj1 : 1 ≤ j := by have := HNZ.out.2.2.1; omega
            have hxs := cutD_small hn (by have := HNZ.out.2.2.2.1; omega) j
            obtain ⟨x, hx⟩ : ∃ x, cutD v.n j = x := ⟨_, rfl⟩
            rw [hx] at hxr hxs HD ⊢
            clear hx
            by_cases hneg : v.n < 0
            · have qn : decide (v.n < 0) = true := decide_eq_true hneg
              have HF := Lib.hid (HD.out hj1)
              rw [if_pos hneg] at HF
              clear hneg
              go_wp2_with fail
              go_ret2
              exact ⟨tup_ib (HF.out.trans HR.out.2.symm) HR.out.1.symm, b1⟩
            · have qn : decide (v.n < 0) = false := decide_eq_false hneg
              have HF := Lib.hid (HD.out hj1)
              rw [if_neg hneg] at HF
              clear hneg
              go_wp2_with fail
              go_ret2
              exact ⟨tup_ib (HF.out.trans HR.out.2.symm) HR.out.1.symm, b1⟩
  · rw [show decide (numOk v) = false from decide_eq_false hnum]
    have HR := Lib.hid (whole_no (v := v) (fun h => hnum h.1))
    clear hnum
    go_wp2_with fail
    go_ret2
    exact ⟨tup_ib HR.out.2.symm HR.out.1.symm, b1⟩
end Go.Proofs.YtbflkcldjjpioaaDoor
