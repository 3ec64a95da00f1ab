/-
  FnExactCompareNum returns true for every two values that can be read; they read as they did; no conditions.
-/
import Derived.Test.YtbflkcldjjpioaaDoorOk
import Derived.Lib.ItoaNum
import Derived.Lib.AtoiAllCases
import Derived.Lib.TrimByte
import Derived.Test.YtbflkcldjjpioaaDoorShelf
import Derived.Lib.AppendIntMem
import Derived.Lib.LaidU8
import Derived.Lib.SmallJoins
import Derived.Stop.LaidErr
import Derived.BigQuiet
import Derived.Deep.RegionHeld3
import Derived.Test.YtbflkcldjjpioaaDoorCards
import Derived.Test.YtbflkcldjjpioaaDoorTie
import Derived.Lay
import Derived.LaidOnce
import Derived.SevenTiedAt
/-
  Right numbers, and the greatest whole number that isn't above one, plainly.
-/
namespace Go.Proofs.YtbflkcldjjpioaaDoor
open Go.RowKit
set_option linter.unusedVariables false
set_option linter.unusedSimpArgs false

/-- A right number. -/
def numOk (v : V) : Prop := (v.k = 3 ∨ v.k = 4) ∧ okV v
theorem okV_leaf {v : V} (h : numOk v) : v.kids.length = 0 ∧ v.s.size = 0 ∧ (v.k = 3 → v.e = 0) ∧ (v.k = 4 → decOk v.n v.e) := by
  obtain ⟨hk, h1, _⟩ := h
  obtain ⟨_, ⟨h2, h3⟩, _⟩ := (V.right_eq _ _).1 h1
  unfold nodeOk at h2
  unfold kidsOk at h3
  rcases hk with hk | hk <;> simp [hk] at h2 h3
  · exact ⟨by rw [h3]; rfl, by rw [h2.2]; rfl, fun _ => h2.1, fun h => by omega⟩
  · exact ⟨by rw [h3]; rfl, by rw [h2.2]; rfl, fun h => by omega, fun _ => h2.1⟩
theorem ten_div (x : Int) (j : Nat) : x / 10 ^ j / 10 = x / 10 ^ (j + 1) := by
  rw [Int.ediv_ediv_of_nonneg (Int.le_of_lt (Int.pow_pos (by omega))), Int.pow_succ]
theorem floor_ten (x : Int) : (Int.tmod x 10 < 0 → Int.tdiv x 10 - 1 = x / 10) ∧ (¬ Int.tmod x 10 < 0 → Int.tdiv x 10 = x / 10) := by
  have h1 := Int.tmod_add_mul_tdiv x 10
  have h3 : -10 < Int.tmod x 10 ∧ Int.tmod x 10 < 10 := by
    constructor
    · have := Int.lt_tmod_of_pos x (show (0 : Int) < 10 by omega); omega
    · exact Int.tmod_lt_of_pos _ (by omega)
  omega
theorem tdiv_sign (x : Int) : Int.tdiv x 10 = if 0 ≤ x then x / 10 else -((-x) / 10) := by
  split
  · rename_i h; exact Int.tdiv_eq_ediv_of_nonneg h
  · rename_i h
    have e : x = -(-x) := by omega
    conv => lhs; rw [e]
    rw [Int.neg_tdiv, Int.tdiv_eq_ediv_of_nonneg (by omega)]
/-- What is left behind j steps of cutting off a digit. -/
def cutD (n : Int) (j : Nat) : Int := if 0 ≤ n then n / 10 ^ j else -((-n) / 10 ^ j)
theorem cutD_step (n : Int) (j : Nat) : Int.tdiv (cutD n j) 10 = cutD n (j + 1) := by
  rw [tdiv_sign]
  unfold cutD
  have hp : (0 : Int) ≤ 10 ^ j := Int.le_of_lt (Int.pow_pos (by omega))
  by_cases h : 0 ≤ n
  · have h1 : 0 ≤ n / 10 ^ j := Int.ediv_nonneg h hp
    simp only [if_pos h, if_pos h1, ten_div]
  · have h1 : 0 ≤ (-n) / 10 ^ j := Int.ediv_nonneg (by omega) hp
    simp only [if_neg h]
    by_cases h2 : 0 ≤ -(-n / 10 ^ j)
    · have h3 : -n / 10 ^ j = 0 := by omega
      rw [if_pos h2, ← ten_div, h3]; rfl
    · rw [if_neg h2, Int.neg_neg, ten_div]
theorem floor_neg {a D : Int} (hD : 0 < D) (h : a % D ≠ 0) : (-a) / D = -(a / D) - 1 := by
  have h1 := Int.emod_add_mul_ediv a D
  have h2 := Int.emod_nonneg a (by omega : D ≠ 0)
  have h3 := Int.emod_lt_of_pos a hD
  refine ((Int.ediv_emod_unique (r := D - a % D) hD).2 ⟨?_, by omega, by omega⟩).1
  rw [Int.mul_sub, Int.mul_neg]
  omega
theorem dec_floor {n : Int} {k : Nat} (hk : 1 ≤ k) (hm : Int.tmod n 10 ≠ 0) : (if n < 0 then cutD n k - 1 else cutD n k) = n / 10 ^ k := by
  have hp : (0 : Int) < 10 ^ k := Int.pow_pos (by omega)
  unfold cutD
  by_cases h : n < 0
  · rw [if_pos h, if_neg (by omega)]
    have hd : (-n) % 10 ^ k ≠ 0 := fun hz => by
      have h1 : (10 : Int) ∣ 10 ^ k := ⟨10 ^ (k - 1), by
        obtain ⟨m, rfl⟩ : ∃ m, k = m + 1 := ⟨k - 1, by omega⟩
        rw [Int.pow_succ, Int.mul_comm, Nat.add_sub_cancel]⟩
      have h2 := Int.emod_emod_of_dvd (-n) h1
      rw [hz] at h2
      have h3 := Int.tmod_add_mul_tdiv n 10
      apply hm
      have h4 : -10 < Int.tmod n 10 ∧ Int.tmod n 10 < 10 := by
        constructor
        · have := Int.lt_tmod_of_pos n (show (0 : Int) < 10 by omega); omega
        · exact Int.tmod_lt_of_pos _ (by omega)
      omega
    have h5 := floor_neg hp hd
    rw [Int.neg_neg] at h5
    exact h5.symm
  · rw [if_neg h, if_pos (by omega)]
/-- Whole. -/
noncomputable def wholeB (v : V) : Bool := decide (numOk v ∧ ¬ 0 < v.e)
noncomputable def wholeN (v : V) : Int := if numOk v ∧ ¬ 0 < v.e then v.n / 10 ^ (-v.e).toNat else 0
theorem whole_no {v : V} (h : ¬ (numOk v ∧ ¬ 0 < v.e)) : wholeB v = false ∧ wholeN v = 0 := ⟨decide_eq_false h, if_neg h⟩
theorem whole_yes {v : V} (h : numOk v ∧ ¬ 0 < v.e) : wholeB v = true ∧ wholeN v = v.n / 10 ^ (-v.e).toNat := ⟨decide_eq_true h, if_pos h⟩
end Go.Proofs.YtbflkcldjjpioaaDoor

/-
  DecText and ReadDec, plainly: a number's digits.
-/
namespace Go.Proofs.YtbflkcldjjpioaaDoor
open Go.RowKit
set_option linter.unusedVariables false

/-- The digits of a number, none for 0. -/
def dd (q : Nat) : List UInt8 := if q = 0 then [] else Lib.decDigits q
theorem dd_step (q : Nat) (h : q ≠ 0) : dd (q / 10) ++ [UInt8.ofNat (48 + q % 10)] = dd q := by
  unfold dd
  rw [if_neg h]
  by_cases h1 : q < 10
  · rw [if_pos (by omega), Lib.decDigits, dif_pos h1, show q % 10 = q by omega]; rfl
  · rw [if_neg (by omega)]
    conv => rhs; rw [Lib.decDigits, dif_neg h1]
theorem dd_pos (q : Nat) (h : q ≠ 0) : dd q = Lib.decDigits q := by unfold dd; rw [if_neg h]
theorem itoa_pos (n : Nat) : Lib.itoa (n : Int) = Lib.decDigits n := by
  unfold Lib.itoa
  rw [if_neg (by omega), Int.toNat_natCast]
theorem itoa_neg (n : Nat) (h : 0 < n) : Lib.itoa (-(n : Int)) = 45 :: Lib.decDigits n := by
  unfold Lib.itoa
  rw [if_pos (by omega), Int.natAbs_neg, Int.natAbs_natCast]
theorem dig_one : ∀ d : Fin 10, (⟨#[48, 49, 50, 51, 52, 53, 54, 55, 56, 57]⟩ : ByteArray).extract d.val (d.val + 1) = str [UInt8.ofNat (48 + d.val)] := by decide +kernel
theorem dig_at (d : Nat) (h : d < 10) : (⟨#[48, 49, 50, 51, 52, 53, 54, 55, 56, 57]⟩ : ByteArray).extract d (d + 1) = str [UInt8.ofNat (48 + d)] := dig_one ⟨d, h⟩
theorem nDigits_le (u k : Nat) (h : u < 10 ^ k) (hk : 1 ≤ k) : Lib.nDigits u ≤ k := by
  by_cases h0 : u = 0
  · subst h0; rw [Lib.nDigits_small (by omega)]; exact hk
  · refine Nat.le_of_not_lt fun hh => ?_
    have : 10 ^ (Lib.nDigits u - 1) ≤ u := by
      clear h hk hh
      induction u using Nat.strongRecOn with
      | ind u ih =>
        by_cases h1 : u < 10
        · rw [Lib.nDigits_small h1]; simp; omega
        · rw [Lib.nDigits_big h1]
          have := ih (u / 10) (by omega) (by omega)
          have hp := Lib.nDigits_pos (u / 10)
          obtain ⟨m, hm⟩ : ∃ m, Lib.nDigits (u / 10) = m + 1 := ⟨Lib.nDigits (u / 10) - 1, by omega⟩
          rw [hm] at this ⊢
          simp only [Nat.add_sub_cancel] at *
          rw [Nat.pow_succ]
          omega
    have h2 : 10 ^ k ≤ 10 ^ (Lib.nDigits u - 1) := Nat.pow_le_pow_right (by omega) (by omega)
    omega
theorem dec_len (u : Nat) (h : u < 10000000000000000000) : (Lib.decDigits u).length ≤ 19 := by
  rw [Lib.decDigits_length]
  exact nDigits_le u 19 (by omega) (by omega)
theorem dec_ne (u : Nat) : Lib.decDigits u ≠ [] := by
  intro h
  have := Lib.decDigits_length u
  have h2 := Lib.nDigits_pos u
  rw [h] at this
  simp at this
  omega
theorem dec_digit (u : Nat) : ∀ b ∈ Lib.decDigits u, 48 ≤ b.toNat ∧ b.toNat ≤ 57 := by
  induction u using Nat.strongRecOn with
  | ind u ih =>
    intro b hb
    rw [Lib.decDigits] at hb
    split at hb
    · simp only [List.mem_singleton] at hb
      subst hb
      rw [UInt8.toNat_ofNat']
      omega
    · rcases List.mem_append.1 hb with hb | hb
      · exact ih (u / 10) (by omega) b hb
      · simp only [List.mem_singleton] at hb
        subst hb
        rw [UInt8.toNat_ofNat']
        omega
/-- The number of some digits. -/
def dval (l : List UInt8) : Nat := l.foldl (fun n b => 10 * n + (b.toNat - 48)) 0
theorem dval_snoc (l : List UInt8) (b : UInt8) : dval (l ++ [b]) = 10 * dval l + (b.toNat - 48) := by simp [dval]
theorem dval_dec (u : Nat) : dval (Lib.decDigits u) = u := by
  induction u using Nat.strongRecOn with
  | ind u ih =>
    rw [Lib.decDigits]
    split
    · simp [dval]; omega
    · rw [dval_snoc, ih (u / 10) (by omega), UInt8.toNat_ofNat']
      omega
theorem parse_dec (l : List UInt8) : ∀ acc, (∀ b ∈ l, 48 ≤ b.toNat ∧ b.toNat ≤ 57) → l.foldl (fun n b => 10 * n + (b.toNat - 48)) acc < 18446744073709551616 → Lib.parseUint10 acc l = .ok (l.foldl (fun n b => 10 * n + (b.toNat - 48)) acc) := by
  induction l with
  | nil => intro acc _ _; rfl
  | cons b l ih =>
    intro acc hd hlt
    have hb := hd b (by simp)
    have hmono : ∀ (r : List UInt8) (a : Nat), a ≤ r.foldl (fun n b => 10 * n + (b.toNat - 48)) a := by
      intro r
      induction r with
      | nil => intro a; exact Nat.le_refl _
      | cons x r ih2 => intro a; rw [List.foldl_cons]; exact Nat.le_trans (by omega) (ih2 _)
    have hm := hmono l (10 * acc + (b.toNat - 48))
    rw [List.foldl_cons] at hlt
    rw [Lib.parseUint10, if_pos hb, if_neg (by omega), if_neg (by omega), List.foldl_cons, Nat.mul_comm acc 10]
    exact ih _ (fun x hx => hd x (by simp [hx])) hlt
theorem parseMag_dec (u : Nat) (h : u < 18446744073709551616) : Lib.parseMag (Lib.decDigits u) = .ok u := by
  unfold Lib.parseMag
  rw [if_neg (dec_ne u)]
  have hv := dval_dec u
  unfold dval at hv
  rw [parse_dec _ 0 (dec_digit u) (by rw [hv]; exact h), hv]
theorem atoi_itoa (v : Int) (h : -9223372036854775808 ≤ v ∧ v ≤ 9223372036854775807) : Lib.atoiAll (Lib.itoa v) = .ok v := by
  by_cases h0 : v < 0
  · obtain ⟨u, rfl⟩ : ∃ u : Nat, v = -(u : Int) := ⟨v.natAbs, by omega⟩
    rw [itoa_neg u (by omega)]
    unfold Lib.atoiAll
    have e : (45 : UInt8).toNat = 45 := rfl
    simp only [e, or_true, if_true]
    rw [parseMag_dec u (by omega)]
    simp
    omega
  · obtain ⟨u, rfl⟩ := Int.eq_ofNat_of_zero_le (show 0 ≤ v by omega)
    rw [itoa_pos]
    have hne := dec_ne u
    have hd := dec_digit u
    have hp := parseMag_dec u (by omega)
    revert hne hd hp
    generalize Lib.decDigits u = l
    intro hne hd hp
    cases l with
    | nil => exact absurd rfl hne
    | cons c r =>
      have hc := hd c (by simp)
      unfold Lib.atoiAll
      simp only [show ¬ (c.toNat = 43 ∨ c.toNat = 45) by omega, if_false]
      rw [hp]
      simp only [show ¬ c.toNat = 45 by omega, if_false, not_false_eq_true, true_and, false_and]
      rw [if_neg (by omega)]
end Go.Proofs.YtbflkcldjjpioaaDoor

/-
  The order of two numbers, plainly: their digits without noughts at the end.
-/
namespace Go.Proofs.YtbflkcldjjpioaaDoor
open Go.RowKit
set_option linter.unusedVariables false
set_option linter.unusedSimpArgs false

/-- Digits without the noughts at their end. -/
def cutZ (l : List UInt8) : List UInt8 := Lib.trimRightB l 48
theorem dropW_all : ∀ l : List UInt8, l.dropWhile (· == 48) = [] → ∀ b ∈ l, b = 48
  | [], _, b, hb => by cases hb
  | a :: l, h, b, hb => by
    by_cases ha : a = 48
    · subst ha
      rw [List.dropWhile_cons_of_pos (by rfl)] at h
      rcases List.mem_cons.1 hb with rfl | hb
      · rfl
      · exact dropW_all l h b hb
    · rw [List.dropWhile_cons_of_neg (by simpa using ha)] at h
      cases h
theorem dropW_split : ∀ l : List UInt8, l = List.replicate (l.length - (l.dropWhile (· == 48)).length) 48 ++ l.dropWhile (· == 48)
  | [] => rfl
  | a :: l => by
    by_cases ha : a = 48
    · subst ha
      rw [List.dropWhile_cons_of_pos (by rfl)]
      have h := dropW_split l
      have hl : (l.dropWhile (· == 48)).length ≤ l.length := (List.dropWhile_sublist _).length_le
      rw [List.length_cons, show l.length + 1 - (l.dropWhile (· == 48)).length = l.length - (l.dropWhile (· == 48)).length + 1 by omega, List.replicate_succ, List.cons_append, ← h]
    · rw [List.dropWhile_cons_of_neg (by simpa using ha)]
      simp
theorem dropW_head {l r : List UInt8} {a : UInt8} (h : l.dropWhile (· == 48) = a :: r) : a ≠ 48 := by
  induction l with
  | nil => cases h
  | cons b l ih =>
    by_cases hb : b = 48
    · subst hb
      rw [List.dropWhile_cons_of_pos (by rfl)] at h
      exact ih h
    · rw [List.dropWhile_cons_of_neg (by simpa using hb)] at h
      injection h with h1 h2
      subst h1
      exact hb
theorem cutZ_len (l : List UInt8) : (cutZ l).length ≤ l.length := by
  have : (l.reverse.dropWhile (· == 48)).length ≤ l.reverse.length := (List.dropWhile_sublist _).length_le
  unfold cutZ Lib.trimRightB
  rw [List.length_reverse]
  rw [List.length_reverse] at this
  exact this
theorem cutZ_split (l : List UInt8) : l = cutZ l ++ List.replicate (l.length - (cutZ l).length) 48 := by
  have h := congrArg List.reverse (dropW_split l.reverse)
  rw [List.reverse_reverse, List.reverse_append, List.reverse_replicate, List.length_reverse] at h
  unfold cutZ Lib.trimRightB
  rw [List.length_reverse]
  exact h
/-- The last of them is none. -/
theorem cutZ_last {l r : List UInt8} {a : UInt8} (h : cutZ l = r ++ [a]) : a ≠ 48 := by
  have h2 := congrArg List.reverse h
  unfold cutZ Lib.trimRightB at h2
  rw [List.reverse_reverse, List.reverse_append, List.reverse_singleton, List.singleton_append] at h2
  exact dropW_head h2
theorem cutZ_nil {l : List UInt8} (h : cutZ l = []) : ∀ b ∈ l, b = 48 := by
  have h2 := congrArg List.reverse h
  unfold cutZ Lib.trimRightB at h2
  rw [List.reverse_reverse] at h2
  intro b hb
  exact dropW_all l.reverse h2 b (by simpa using hb)
theorem dval_zeros : ∀ l : List UInt8, (∀ b ∈ l, b = 48) → dval l = 0 := by
  have h : ∀ l : List UInt8, (∀ b ∈ l, b = 48) → l.foldl (fun n b => 10 * n + (b.toNat - 48)) 0 = 0 := by
    intro l
    induction l with
    | nil => intro _; rfl
    | cons a l ih =>
      intro h
      have ha := h a (by simp)
      subst ha
      rw [List.foldl_cons]
      exact ih (fun b hb => h b (by simp [hb]))
  exact h
theorem cutZ_dec {u : Nat} (h : u ≠ 0) : cutZ (Lib.decDigits u) ≠ [] := by
  intro h2
  have := dval_zeros _ (cutZ_nil h2)
  rw [dval_dec] at this
  exact h this

theorem bl_tri : ∀ l m : List UInt8, (Op.bytesLess l m = true ∧ Op.bytesLess m l = false ∧ l ≠ m) ∨ (Op.bytesLess l m = false ∧ Op.bytesLess m l = false ∧ l = m) ∨ (Op.bytesLess l m = false ∧ Op.bytesLess m l = true ∧ l ≠ m)
  | [], [] => .inr (.inl ⟨rfl, rfl, rfl⟩)
  | [], b :: m => .inl ⟨rfl, rfl, by simp⟩
  | a :: l, [] => .inr (.inr ⟨rfl, rfl, by simp⟩)
  | a :: l, b :: m => by
    have ih := bl_tri l m
    by_cases h1 : a < b
    · have h2 : ¬ b < a := by intro h; have := UInt8.lt_iff_toNat_lt.1 h1; have := UInt8.lt_iff_toNat_lt.1 h; omega
      have h3 : a ≠ b := by rintro rfl; exact h2 h1
      exact .inl ⟨by simp [Op.bytesLess, h1], by simp [Op.bytesLess, h2, Ne.symm h3], by simp [h3]⟩
    · by_cases h2 : b < a
      · have h3 : a ≠ b := by rintro rfl; exact h1 h2
        exact .inr (.inr ⟨by simp [Op.bytesLess, h1, h3], by simp [Op.bytesLess, h2], by simp [h3]⟩)
      · have h3 : a = b := by
          apply UInt8.toNat_inj.1
          have e1 : ¬ a.toNat < b.toNat := fun h => h1 (UInt8.lt_iff_toNat_lt.2 h)
          have e2 : ¬ b.toNat < a.toNat := fun h => h2 (UInt8.lt_iff_toNat_lt.2 h)
          omega
        subst h3
        simpa [Op.bytesLess] using ih
theorem lessT_swap (a b : ByteArray) : lessT b a = - lessT a b := by
  unfold lessT
  rcases bl_tri a.toList b.toList with ⟨h1, h2, h3⟩ | ⟨h1, h2, h3⟩ | ⟨h1, h2, h3⟩
  · have h4 : (b.toList == a.toList) = false := by simpa using Ne.symm h3
    simp [h1, h2, h4]
  · have h4 : (b.toList == a.toList) = true := by simpa using h3.symm
    have h5 : (a.toList == b.toList) = true := by simpa using h3
    rw [h1, h2, h4, h5]
    rfl
  · have h4 : (a.toList == b.toList) = false := by simpa using h3
    simp [h1, h2, h4]
theorem lessI_swap (a b : Int) : lessI b a = - lessI a b := by
  unfold lessI
  repeat' split
  all_goals omega
theorem lessI_range (a b : Int) : -1 ≤ lessI a b ∧ lessI a b ≤ 1 := by
  unfold lessI
  repeat' split
  all_goals omega
theorem lessT_range (a b : ByteArray) : -1 ≤ lessT a b ∧ lessT a b ≤ 1 := by
  unfold lessT
  repeat' split
  all_goals omega

/-- The digits of a number. -/
def V.digs (v : V) : List UInt8 := Lib.decDigits v.n.natAbs
/-- How many digits a number has ahead of its point. -/
def V.mag (v : V) : Int := (v.digs.length : Int) + v.e
/-- The order of the sizes of two numbers that are not 0. -/
def sizeR (a b : V) : Int := if lessI a.mag b.mag = 0 then lessT (str (cutZ a.digs)) (str (cutZ b.digs)) else lessI a.mag b.mag
theorem sizeR_swap (a b : V) : sizeR b a = - sizeR a b := by
  unfold sizeR
  rw [lessI_swap a.mag b.mag, lessT_swap (str (cutZ a.digs)) (str (cutZ b.digs))]
  by_cases h : lessI a.mag b.mag = 0
  · rw [if_pos (by omega), if_pos h]
  · rw [if_neg (by omega), if_neg h]
theorem sizeR_range (a b : V) : -1 ≤ sizeR a b ∧ sizeR a b ≤ 1 := by
  have := lessI_range a.mag b.mag
  have := lessT_range (str (cutZ a.digs)) (str (cutZ b.digs))
  unfold sizeR
  split <;> omega
/-- A number's sign. -/
def sgR (v : V) : Int := lessI v.n 0
theorem sgR_cases (v : V) : (sgR v = -1 ∧ v.n < 0) ∨ (sgR v = 0 ∧ v.n = 0) ∨ (sgR v = 1 ∧ 0 < v.n) := by
  unfold sgR lessI
  repeat' split
  all_goals omega
/-- CompareNum. -/
noncomputable def cnR (a b : V) : Int := if numOk a ∧ numOk b then (if sgR a ≠ sgR b ∨ sgR a = 0 then lessI (sgR a) (sgR b) else sgR a * sizeR a b) else 2
theorem cnR_no {a b : V} (h : ¬ (numOk a ∧ numOk b)) : cnR a b = 2 := if_neg h
theorem cnR_sign {a b : V} (h : numOk a ∧ numOk b) (h2 : sgR a ≠ sgR b ∨ sgR a = 0) : cnR a b = lessI (sgR a) (sgR b) := by unfold cnR; rw [if_pos h, if_pos h2]
theorem cnR_pos {a b : V} (h : numOk a ∧ numOk b) (h1 : sgR a = 1) (h2 : sgR b = 1) : cnR a b = sizeR a b := by
  unfold cnR; rw [if_pos h, if_neg (by omega), h1]; omega
theorem cnR_neg {a b : V} (h : numOk a ∧ numOk b) (h1 : sgR a = -1) (h2 : sgR b = -1) : cnR a b = sizeR b a := by
  unfold cnR; rw [if_pos h, if_neg (by omega), h1, sizeR_swap a b]; omega
/-- The reference's digits, and its power. -/
def V.cutE (v : V) : Int := v.e + ((v.digs.length - (cutZ v.digs).length : Nat) : Int)
theorem V.cut_mag (v : V) : ((cutZ v.digs).length : Int) + v.cutE = v.mag := by
  have := cutZ_len v.digs
  unfold V.cutE V.mag
  omega
theorem numOk_n {v : V} (h : numOk v) : -20 ≤ v.e ∧ v.e ≤ 20 := by
  obtain ⟨h1, h2, h3, h4⟩ := okV_leaf h
  rcases h.1 with hk | hk
  · have := h3 hk; omega
  · have := h4 hk
    unfold decOk at this
    omega
end Go.Proofs.YtbflkcldjjpioaaDoor

/-
  The reference's test of a number, and Whole.
-/
namespace Go.Proofs.YtbflkcldjjpioaaDoor
open Go.RowKit
set_option linter.unusedVariables false
set_option linter.unusedSimpArgs false
set_option maxRecDepth 100000

set_option maxHeartbeats 2000000 in
theorem specIs (v : V) (A : Option Addr) (cap : Nat) (w : World) (hw : v.weight ≤ 1048576) (hat : Vs.at_ w 0 w.heap.size v.kids A) :
    Calls Tryd.prog 30 #[v.agg A cap] w fun e w' => e = .returned (.bool (decide (numOk v))) ∧ Below w.heap.size w w' := by
  have HA := Lib.hid hat
  clear hat
  rcases (show ((v.k == 3) = true ∧ (v.k = 3 ∨ v.k = 4)) ∨ ((v.k == 3) = false ∧ (v.k == 4) = true ∧ (v.k = 3 ∨ v.k = 4)) ∨ ((v.k == 3) = false ∧ (v.k == 4) = false ∧ ¬ (v.k = 3 ∨ v.k = 4)) by
    by_cases h3 : v.k = 3
    · exact .inl ⟨by rw [h3]; rfl, .inl h3⟩
    · by_cases h4 : v.k = 4
      · exact .inr (.inl ⟨by simpa using h3, by rw [h4]; rfl, .inr h4⟩)
      · exact .inr (.inr ⟨by simpa using h3, by simpa using h4, fun h => h.elim h3 h4⟩)) with ⟨q3, hk⟩ | ⟨q3, q4, hk⟩ | ⟨q3, q4, hk⟩
  iterate 2
    have HK : Hid (okV v ↔ numOk v) := Lib.hid ⟨fun h => ⟨hk, h⟩, fun h => h.2⟩
    clear hk
    unfold V.agg
    go_enter Tryd.func30, Tryd.ntmps30
    go_wp2_with fail
    have b0 : Below w.heap.size w (w.alloc (.cells #[.int .i64 v.k, .int .i64 v.n, .int .i64 v.e, .string v.s, .slice A v.kids.length cap] 34)) := (Below.refl _ w).alloc (Nat.le_refl _) _
    refine (specValueOk v A cap _ hw (Vs.at_more (Nat.le_refl _) b0.size _ _ (Vs.at_below HA.out b0 (Nat.le_refl _)))).mono ?_
    rintro e w1 ⟨rfl, hb1⟩
    go_wp2_with fail
    go_ret
    exact ⟨ret_bool (decide_eq_decide.2 HK.out), b0.trans (hb1.mono b0.size)⟩
  have HN : Hid (¬ numOk v) := Lib.hid (fun h => hk h.1)
  clear hk
  unfold V.agg
  go_enter Tryd.func30, Tryd.ntmps30
  go_wp2_with fail
  go_ret
  exact ⟨ret_bool (decide_eq_false HN.out).symm, (Below.refl _ _).alloc (Nat.le_refl _) _⟩
theorem tup_ib {a a' : Int} {b b' : Bool} (h1 : a = a') (h2 : b = b') : Ending.returned (.tuple #[.int .i64 a, .bool b]) = Ending.returned (.tuple #[.int .i64 a', .bool b']) := by rw [h1, h2]
theorem pow_div_small {n : Int} (h : -9223372036854775808 ≤ n ∧ n ≤ 9223372036854775807) (j : Nat) : -9223372036854775808 ≤ n / 10 ^ j ∧ n / 10 ^ j ≤ 9223372036854775807 := by
  have hp : (1 : Int) ≤ 10 ^ j := by have : (0 : Int) < 10 ^ j := Int.pow_pos (by omega); omega
  constructor
  · refine Int.le_ediv_of_mul_le (by omega) ?_
    have h2 := Int.mul_nonneg (show (0 : Int) ≤ 9223372036854775808 by omega) (show (0 : Int) ≤ 10 ^ j - 1 by omega)
    rw [Int.mul_sub] at h2
    omega
  · by_cases h0 : 0 ≤ n
    · have := Int.ediv_le_self (10 ^ j) h0; omega
    · have : n / 10 ^ j ≤ 0 := by
        have h3 := Int.ediv_neg_of_neg_of_pos (a := n) (b := 10 ^ j) (by omega) (by omega)
        omega
      omega

set_option maxHeartbeats 4000000 in
theorem specWholeV (v : V) (A : Option Addr) (cap : Nat) (w : World) (hf : v.fits) (hw : v.weight ≤ 1048576) (hat : Vs.at_ w 0 w.heap.size v.kids A) :
    Calls Tryd.prog 14 #[v.agg A cap] w fun e w' => e = .returned (.tuple #[.int .i64 (wholeN v), .bool (wholeB v)]) ∧ Below w.heap.size w w' := by
  have HA := Lib.hid hat
  have hf3 := (V.fits_eq v).1 hf
  have hn := hf3.2.2.2.2.1
  have he := hf3.2.2.2.2.2
  unfold inI at hn he
  clear hat hf hf3
  unfold V.agg
  go_enter Tryd.func14, Tryd.ntmps14
  go_wp2_with fail
  have b0 : Below w.heap.size w (w.alloc (.cells #[.int .i64 v.k, .int .i64 v.n, .int .i64 v.e, .string v.s, .slice A v.kids.length cap] 34)) := (Below.refl _ w).alloc (Nat.le_refl _) _
  refine (specIs v A cap _ hw (Vs.at_more (Nat.le_refl _) b0.size _ _ (Vs.at_below HA.out b0 (Nat.le_refl _)))).mono ?_
  rintro e w1 ⟨rfl, hb1⟩
  obtain ⟨p0, p1, p2, p3, p4⟩ := ((Blk.new w 34 #[.int .i64 v.k, .int .i64 v.n, .int .i64 v.e, .string v.s, .slice A v.kids.length cap]).below hb1 (by simp)).five
  have b1 : Below w.heap.size w w1 := b0.trans (hb1.mono b0.size)
  clear b0 hb1
  by_cases hnum : numOk v
  · rw [show decide (numOk v) = true from decide_eq_true hnum]
    by_cases hpos : 0 < v.e
    · have q : decide (0 < v.e) = true := decide_eq_true hpos
      have HR := Lib.hid (whole_no (v := v) (fun h => h.2 hpos))
      clear hnum
      go_wp2_with fail
      go_ret2
      exact ⟨tup_ib HR.out.2.symm HR.out.1.symm, b1⟩
    · have q : decide (0 < v.e) = false := decide_eq_false hpos
      have HR := Lib.hid (whole_yes (v := v) ⟨hnum, hpos⟩)
      have hle := okV_leaf hnum
      have hlow : -20 ≤ v.e := by
        rcases hnum.1 with h | h
        · have := hle.2.2.1 h; omega
        · exact (hle.2.2.2 h).1
      obtain ⟨K, hK⟩ : ∃ K : Nat, (-v.e).toNat = K := ⟨_, rfl⟩
      have hK1 : v.e ≤ -(K : Int) := by omega
      have hK2 : -(K : Int) ≤ v.e := by omega
      have hK20 : K ≤ 20 := by omega
      rw [hK] at HR
      have HK := Lib.hid hK
      clear hnum hle hK
      go_wp2_with fail
      go_loop [4, 5] (fun z y => ∃ j : Nat, j ≤ K ∧ z = .int .i64 (v.n / 10 ^ j) ∧ y = .int .i64 (v.e + j)) (fun _ y => (-(intOf y)).toNat)
      case atStart => exact ⟨0, Nat.zero_le _, by simp, by simp⟩
      case round =>
        obtain ⟨j, hj, rfl, rfl⟩ := hrel
        by_cases hlt : j < K
        · obtain ⟨x, hx⟩ : ∃ x, v.n / 10 ^ j = x := ⟨_, rfl⟩
          have hxr := pow_div_small hn j
          have hst := ten_div v.n j
          have hfl := floor_ten x
          rw [hx] at hxr hst ⊢
          have HST := Lib.hid hst
          have hmr := Int.tmod_add_mul_tdiv x 10
          have hq1 : -9223372036854775808 < Int.tdiv x 10 ∧ Int.tdiv x 10 ≤ 9223372036854775807 := by omega
          clear hx hst hmr
          have qe : decide (v.e + (j : Int) < 0) = true := decide_eq_true (by omega)
          by_cases hneg : Int.tmod x 10 < 0
          · have qn : decide (Int.tmod x 10 < 0) = true := decide_eq_true hneg
            have HF := Lib.hid (hfl.1 hneg)
            clear hfl hneg
            go_wp2_with fail
            go_round
            case rel => exact ⟨j + 1, by omega, congrArg (Value.int .i64) (HF.out.trans HST.out), by go_num⟩
            case measure => simp [intOf]; omega
          · have qn : decide (Int.tmod x 10 < 0) = false := decide_eq_false hneg
            have HF := Lib.hid (hfl.2 hneg)
            clear hfl hneg
            go_wp2_with fail
            go_round
            case rel => exact ⟨j + 1, by omega, congrArg (Value.int .i64) (HF.out.trans HST.out), by go_num⟩
            case measure => simp [intOf]; omega
        · obtain rfl : j = K := by omega
          have qe : decide (v.e + (j : Int) < 0) = false := decide_eq_false (by omega)
          go_wp2_with fail
          go_ret2
          exact ⟨tup_ib HR.out.2.symm HR.out.1.symm, b1⟩
  · rw [show decide (numOk v) = false from decide_eq_false hnum]
    have HR := Lib.hid (whole_no (v := v) (fun h => hnum h.1))
    clear hnum
    go_wp2_with fail
    go_ret2
    exact ⟨tup_ib HR.out.2.symm HR.out.1.symm, b1⟩
end Go.Proofs.YtbflkcldjjpioaaDoor

/-
  The program's test of a number, and Whole.
-/
namespace Go.Proofs.YtbflkcldjjpioaaDoor
open Go.RowKit
set_option linter.unusedVariables false
set_option linter.unusedSimpArgs false
set_option maxRecDepth 100000

set_option maxHeartbeats 2000000 in
theorem implIs (v : V) (A : Option Addr) (cap : Nat) (w : World) (hw : v.weight ≤ 1048576) (hT : Tabs w) (hat : Vs.at_ w 0 w.heap.size v.kids A) :
    Calls Tryd.prog 32 #[v.agg A cap] w fun e w' => e = .returned (.bool (decide (numOk v))) ∧ Below w.heap.size w w' := by
  have HA := Lib.hid hat
  have HT := Lib.hid hT
  clear hat hT
  rcases (show ((v.k == 3) = true ∧ (v.k = 3 ∨ v.k = 4)) ∨ ((v.k == 3) = false ∧ (v.k == 4) = true ∧ (v.k = 3 ∨ v.k = 4)) ∨ ((v.k == 3) = false ∧ (v.k == 4) = false ∧ ¬ (v.k = 3 ∨ v.k = 4)) by
    by_cases h3 : v.k = 3
    · exact .inl ⟨by rw [h3]; rfl, .inl h3⟩
    · by_cases h4 : v.k = 4
      · exact .inr (.inl ⟨by simpa using h3, by rw [h4]; rfl, .inr h4⟩)
      · exact .inr (.inr ⟨by simpa using h3, by simpa using h4, fun h => h.elim h3 h4⟩)) with ⟨q3, hk⟩ | ⟨q3, q4, hk⟩ | ⟨q3, q4, hk⟩
  iterate 2
    have HK : Hid (okV v ↔ numOk v) := Lib.hid ⟨fun h => ⟨hk, h⟩, fun h => h.2⟩
    clear hk
    unfold V.agg
    go_enter Tryd.func32, Tryd.ntmps32
    go_wp2_with fail
    have b0 : Below w.heap.size w (w.alloc (.cells #[.int .i64 v.k, .int .i64 v.n, .int .i64 v.e, .string v.s, .slice A v.kids.length cap] 34)) := (Below.refl _ w).alloc (Nat.le_refl _) _
    refine (implValueOk v A cap _ hw (HT.out.below b0) (Vs.at_more (Nat.le_refl _) b0.size _ _ (Vs.at_below HA.out b0 (Nat.le_refl _)))).mono ?_
    rintro e w1 ⟨rfl, hb1⟩
    go_wp2_with fail
    go_ret
    exact ⟨ret_bool (decide_eq_decide.2 HK.out), b0.trans (hb1.mono b0.size)⟩
  have HN : Hid (¬ numOk v) := Lib.hid (fun h => hk h.1)
  clear hk
  unfold V.agg
  go_enter Tryd.func32, Tryd.ntmps32
  go_wp2_with fail
  go_ret
  exact ⟨ret_bool (decide_eq_false HN.out).symm, (Below.refl _ _).alloc (Nat.le_refl _) _⟩
theorem cutD_small {n : Int} (h : -9223372036854775808 ≤ n ∧ n ≤ 9223372036854775807) (hm : -9223372036854775808 < n) (j : Nat) : -9223372036854775808 < cutD n j ∧ cutD n j ≤ 9223372036854775807 := by
  unfold cutD
  by_cases h0 : 0 ≤ n
  · rw [if_pos h0]
    have h1 := pow_div_small h j
    have h2 : 0 ≤ n / 10 ^ j := Int.ediv_nonneg h0 (Int.le_of_lt (Int.pow_pos (by omega)))
    omega
  · rw [if_neg h0]
    have h1 := pow_div_small (n := -n) (by omega) j
    have h2 : 0 ≤ (-n) / 10 ^ j := Int.ediv_nonneg (by omega) (Int.le_of_lt (Int.pow_pos (by omega)))
    omega
theorem cutD_zero (n : Int) : cutD n 0 = n := by
  unfold cutD
  rw [Int.pow_zero]
  split <;> simp
theorem cutD_range {n : Int} (h : -9223372036854775808 ≤ n ∧ n ≤ 9223372036854775807) (j : Nat) : -9223372036854775808 ≤ cutD n j ∧ cutD n j ≤ 9223372036854775807 := by
  by_cases hm : -9223372036854775808 < n
  · have := cutD_small h hm j; omega
  · obtain rfl : n = -9223372036854775808 := by omega
    cases j with
    | zero => rw [cutD_zero]; omega
    | succ j =>
      unfold cutD
      rw [if_neg (by omega)]
      have h2 : (0 : Int) < 10 ^ j := Int.pow_pos (by omega)
      have h3 : (10 : Int) ^ (j + 1) = 10 ^ j * 10 := Int.pow_succ _ _
      have h5 : (- -9223372036854775808 : Int) / 10 ^ (j + 1) = 9223372036854775808 / 10 / 10 ^ j := by
        rw [h3, Int.mul_comm, ← Int.ediv_ediv_of_nonneg (by omega)]
        rfl
      have h4 := pow_div_small (n := 9223372036854775808 / 10) (by omega) j
      have h6 : (0 : Int) ≤ 9223372036854775808 / 10 / 10 ^ j := Int.ediv_nonneg (by omega) (Int.le_of_lt h2)
      rw [h5]
      omega

set_option maxHeartbeats 8000000 in
theorem implWhole (v : V) (A : Option Addr) (cap : Nat) (w : World) (hf : v.fits) (hw : v.weight ≤ 1048576) (hT : Tabs w) (hat : Vs.at_ w 0 w.heap.size v.kids A) :
    Calls Tryd.prog 16 #[v.agg A cap] w fun e w' => e = .returned (.tuple #[.int .i64 (wholeN v), .bool (wholeB v)]) ∧ Below w.heap.size w w' := by
  have HA := Lib.hid hat
  have HT := Lib.hid hT
  have hf3 := (V.fits_eq v).1 hf
  have hn := hf3.2.2.2.2.1
  have he := hf3.2.2.2.2.2
  unfold inI at hn he
  clear hat hf hf3 hT
  unfold V.agg
  go_enter Tryd.func16, Tryd.ntmps16
  go_wp2_with fail
  have b0 : Below w.heap.size w (w.alloc (.cells #[.int .i64 v.k, .int .i64 v.n, .int .i64 v.e, .string v.s, .slice A v.kids.length cap] 34)) := (Below.refl _ w).alloc (Nat.le_refl _) _
  refine (implIs v A cap _ hw (HT.out.below b0) (Vs.at_more (Nat.le_refl _) b0.size _ _ (Vs.at_below HA.out b0 (Nat.le_refl _)))).mono ?_
  rintro e w1 ⟨rfl, hb1⟩
  obtain ⟨p0, p1, p2, p3, p4⟩ := ((Blk.new w 34 #[.int .i64 v.k, .int .i64 v.n, .int .i64 v.e, .string v.s, .slice A v.kids.length cap]).below hb1 (by simp)).five
  have b1 : Below w.heap.size w w1 := b0.trans (hb1.mono b0.size)
  clear b0 hb1
  by_cases hnum : numOk v
  · rw [show decide (numOk v) = true from decide_eq_true hnum]
    by_cases hpos : 0 < v.e
    · have q : decide (0 < v.e) = true := decide_eq_true hpos
      have HR := Lib.hid (whole_no (v := v) (fun h => h.2 hpos))
      clear hnum
      go_wp2_with fail
      go_ret2
      exact ⟨tup_ib HR.out.2.symm HR.out.1.symm, b1⟩
    · have q : decide (0 < v.e) = false := decide_eq_false hpos
      have HR := Lib.hid (whole_yes (v := v) ⟨hnum, hpos⟩)
      have hle := okV_leaf hnum
      by_cases h3 : v.k = 3
      · have q3 : (v.k == 3) = true := by rw [h3]; rfl
        have HE := Lib.hid (hle.2.2.1 h3)
        clear hnum hle h3
        go_wp2_with fail
        go_ret2
        exact ⟨tup_ib (by rw [HR.out.2, HE.out]; simp) HR.out.1.symm, b1⟩
      · have h4 : v.k = 4 := hnum.1.resolve_left h3
        have q3 : (v.k == 3) = false := by simpa using h3
        have hdec := hle.2.2.2 h4
        have hlow : -20 ≤ v.e := hdec.1
        have HNZ := Lib.hid hdec
        obtain ⟨K, hK⟩ : ∃ K : Nat, (-v.e).toNat = K := ⟨_, rfl⟩
        have hK1 : v.e ≤ -(K : Int) := by omega
        have hK2 : -(K : Int) ≤ v.e := by omega
        have hK20 : K ≤ 20 := by omega
        rw [hK] at HR
        have HK := Lib.hid hK
        clear hnum hle hK hdec h3 h4
        go_wp2_with fail
        go_loop [4, 25] (fun z y => ∃ j : Nat, j ≤ K ∧ z = .int .i64 (cutD v.n j) ∧ y = .int .i64 (j : Int)) (fun _ y => K - (intOf y).toNat)
        case atStart => exact ⟨0, Nat.zero_le _, by rw [cutD_zero], by simp⟩
        case round =>
          obtain ⟨j, hj, rfl, rfl⟩ := hrel
          by_cases hlt : j < K
          · have hst := cutD_step v.n j
            have hxr := cutD_range hn j
            have hyr := cutD_range hn (j + 1)
            rw [← hst] at hyr
            obtain ⟨x, hx⟩ : ∃ x, cutD v.n j = x := ⟨_, rfl⟩
            rw [hx] at hst hxr hyr ⊢
            have HST := Lib.hid hst
            have qe : decide ((j : Int) < -v.e) = true := decide_eq_true (by omega)
            clear hst hx
            go_wp2_with fail
            go_round
            case rel => exact ⟨j + 1, by omega, congrArg (Value.int .i64) HST.out, by go_num⟩
            case measure => simp [intOf]; omega
          · obtain rfl : j = K := by omega
            have qe : decide ((j : Int) < -v.e) = false := decide_eq_false (by omega)
            have hxr := cutD_range hn j
            have HD := Lib.hid (show (1 ≤ j) → (if v.n < 0 then cutD v.n j - 1 else cutD v.n j) = v.n / 10 ^ j from fun h => dec_floor h HNZ.out.2.2.2.2.2.1)
            have hj1 : 1 ≤ j := by have := HNZ.out.2.2.1; omega
            have hxs := cutD_small hn (by have := HNZ.out.2.2.2.1; omega) j
            obtain ⟨x, hx⟩ : ∃ x, cutD v.n j = x := ⟨_, rfl⟩
            rw [hx] at hxr hxs HD ⊢
            clear hx
            by_cases hneg : v.n < 0
            · have qn : decide (v.n < 0) = true := decide_eq_true hneg
              have HF := Lib.hid (HD.out hj1)
              rw [if_pos hneg] at HF
              clear hneg
              go_wp2_with fail
              go_ret2
              exact ⟨tup_ib (HF.out.trans HR.out.2.symm) HR.out.1.symm, b1⟩
            · have qn : decide (v.n < 0) = false := decide_eq_false hneg
              have HF := Lib.hid (HD.out hj1)
              rw [if_neg hneg] at HF
              clear hneg
              go_wp2_with fail
              go_ret2
              exact ⟨tup_ib (HF.out.trans HR.out.2.symm) HR.out.1.symm, b1⟩
  · rw [show decide (numOk v) = false from decide_eq_false hnum]
    have HR := Lib.hid (whole_no (v := v) (fun h => hnum h.1))
    clear hnum
    go_wp2_with fail
    go_ret2
    exact ⟨tup_ib HR.out.2.symm HR.out.1.symm, b1⟩
end Go.Proofs.YtbflkcldjjpioaaDoor

/-
  DecText of the program; what the library's numbers ask of the world.
-/
namespace Go.Proofs.YtbflkcldjjpioaaDoor
open Go.RowKit
set_option linter.unusedVariables false

theorem gPow : Tryd.prog.globalNamed "internal/strconv.uint64pow10" = some 2 := by kernel_rfl
/-- The table of the powers of ten lies as it was laid. -/
def Pow10 (w : World) : Prop := Lib.TabIs Tryd.prog w "internal/strconv.uint64pow10" .u64 Lib.pow10Tab
theorem Pow10.below {w w' : World} {B : Nat} (h : Pow10 w) (hb : Below B w w') (hB : w.heap.size ≤ B) : Pow10 w' := Go.Joins.tab_stays gPow h hb hB
theorem powD : (Rows.laid_internal_strconv_uint64pow10 : DataW Unit) = Lib.tabData .u64 Lib.pow10Tab := by kernel_rfl
theorem gPowT : (Tryd.prog.globals[2]?).map (·.type) = some 135 := by kernel_rfl
theorem pow_of_laid {l : List (String × DataW Unit)} {W : World} (h : laidMet Tryd.prog l W) (hm : ("internal/strconv.uint64pow10", Rows.laid_internal_strconv_uint64pow10) ∈ l) : Pow10 W := by
  obtain ⟨g', t', cs, fuel, p, hg', ht', hvar, hd⟩ := Lib.laidMet.reads h hm
  obtain rfl := Option.some.inj (gPow.symm.trans hg')
  obtain rfl := Option.some.inj (gPowT.symm.trans ht')
  rw [powD] at hd
  have hc := Lib.cells_of_tab Tryd.underlying135 Tryd.underlying112 (by kernel_rfl) (by kernel_rfl) hd
  show World.var? _ _ _ = _
  rw [hvar, ← hc]

theorem implDecText (n : Int) (w : World) (h : -9223372036854775808 ≤ n ∧ n ≤ 9223372036854775807) (hP : Pow10 w) :
    Calls Tryd.prog 10 #[.int .i64 n] w fun e w' => e = .returned (.string (str (Lib.itoa n))) ∧ Below w.heap.size w w' := by
  have HP := Lib.hid hP
  clear hP
  go_enter Tryd.func10, Tryd.ntmps10
  go_wp2_with fail
  refine (Tryd.strconv_Itoa n h.1 h.2 w HP.out).mono ?_
  rintro e w1 ⟨rfl, k, os, rfl⟩
  go_wp2_with fail
  go_ret
  exact ⟨rfl, Lib.below_grow _ _ (Nat.le_refl _) _ _⟩
end Go.Proofs.YtbflkcldjjpioaaDoor

/-
  DecText of the reference.
-/
namespace Go.Proofs.YtbflkcldjjpioaaDoor
open Go.RowKit
set_option linter.unusedVariables false

theorem str_cons (b : UInt8) (l : List UInt8) : str [b] ++ str l = str (b :: l) := by
  apply ByteArray.ext
  simp [str]
theorem strlen (l : List UInt8) : (str l).size = l.length := by simp [str, ByteArray.size]
theorem dd_cons (q u : Nat) (l : List UInt8) (h : q ≠ 0) (hl : dd q ++ l = dd u) : dd (q / 10) ++ (UInt8.ofNat (48 + q % 10) :: l) = dd u := by
  rw [← hl, ← dd_step q h]; simp

set_option maxHeartbeats 1000000 in
theorem specDecText_pos (u : Nat) (w : World) (h0 : 0 < u) (hu : u < 9223372036854775808) :
    Calls Tryd.prog 9 #[.int .i64 (u : Int)] w fun e w' => e = .returned (.string (str (Lib.itoa u))) ∧ w = w' := by
  have HR := Lib.hid (itoa_pos u)
  have HL := Lib.hid (dec_len u (by omega))
  have hz : ((u : Int) == 0) = false := by rw [beq_eq_false_iff_ne]; omega
  have hneg : decide ((u : Int) < 0) = false := decide_eq_false (by omega)
  go_enter Tryd.func9, Tryd.ntmps9
  go_wp2_with fail
  go_loop [3, 4] (fun o m => ∃ (q : Nat) (l : List UInt8), q ≤ u ∧ dd q ++ l = dd u ∧ m = .int .i64 (q : Int) ∧ o = .string (str l)) (fun _ m => (intOf m).toNat)
  case atStart => exact ⟨u, [], by omega, by simp, rfl, rfl⟩
  case round =>
    obtain ⟨q, l, hq, hl, rfl, rfl⟩ := hrel
    by_cases hq0 : q = 0
    · subst hq0
      have HE : Hid (str l = str (Lib.itoa u)) := Lib.hid (by rw [HR.out, ← dd_pos u (by omega), ← hl]; simp [dd])
      clear hl
      go_wp2_with fail
      go_ret
      exact ⟨congrArg (fun x => Ending.returned (.string x)) HE.out, rfl⟩
    · have HQ := Lib.hid (dd_cons q u l hq0 hl)
      have HD := Lib.hid (dig_at (q % 10) (by omega))
      have hlen : (str l).size ≤ 19 := by
        rw [strlen]
        have h1 := HL.out
        rw [← dd_pos u (by omega), ← hl, List.length_append] at h1
        omega
      have hqz : ((q : Int) == 0) = false := by rw [beq_eq_false_iff_ne]; omega
      clear hl
      go_wp2_with fail
      go_round
      case rel => refine ⟨q / 10, UInt8.ofNat (48 + q % 10) :: l, by omega, HQ.out, by go_num, ?_⟩; rw [HD.out, str_cons]
      case measure => simp [intOf]; omega

theorem neg_tdiv (q : Nat) : Int.tdiv (-(q : Int)) 10 = -((q / 10 : Nat) : Int) := by
  rw [Int.neg_tdiv]; rfl
theorem neg_tmod (q : Nat) : Int.tmod (-(q : Int)) 10 = -((q % 10 : Nat) : Int) := by
  rw [Int.neg_tmod]; rfl
set_option maxHeartbeats 1000000 in
theorem specDecText_neg (u : Nat) (w : World) (h0 : 0 < u) (hu : u ≤ 9223372036854775808) :
    Calls Tryd.prog 9 #[.int .i64 (-(u : Int))] w fun e w' => e = .returned (.string (str (Lib.itoa (-(u : Int))))) ∧ w = w' := by
  have HR := Lib.hid (itoa_neg u h0)
  have HL := Lib.hid (dec_len u (by omega))
  have hz : (-(u : Int) == 0) = false := by rw [beq_eq_false_iff_ne]; omega
  have hneg : decide (-(u : Int) < 0) = true := decide_eq_true (by omega)
  go_enter Tryd.func9, Tryd.ntmps9
  go_wp2_with fail
  go_loop [3, 4, 5] (fun o m _ => ∃ (q : Nat) (l : List UInt8), q ≤ u ∧ dd q ++ l = dd u ∧ m = .int .i64 (-(q : Int)) ∧ o = .string (str l)) (fun _ m _ => (intOf m).natAbs)
  case atStart => exact ⟨u, [], by omega, by simp, rfl, rfl⟩
  case round =>
    obtain ⟨q, l, hq, hl, rfl, rfl⟩ := hrel
    have hlen : (str l).size ≤ 19 := by
      rw [strlen]
      have h1 := HL.out
      rw [← dd_pos u (by omega), ← hl, List.length_append] at h1
      omega
    by_cases hq0 : q = 0
    · subst hq0
      have HE : Hid (str [45] ++ str l = str (Lib.itoa (-(u : Int)))) := Lib.hid (by rw [HR.out, str_cons, ← dd_pos u (by omega), ← hl]; simp [dd])
      clear hl
      go_wp2_with fail
      go_ret
      exact ⟨congrArg (fun x => Ending.returned (.string x)) HE.out, rfl⟩
    · have HQ := Lib.hid (dd_cons q u l hq0 hl)
      have HD := Lib.hid (dig_at (q % 10) (by omega))
      have hqz : (-(q : Int) == 0) = false := by rw [beq_eq_false_iff_ne]; omega
      have ht1 := neg_tdiv q
      have ht2 := neg_tmod q
      clear hl
      by_cases hd : q % 10 = 0
      · rw [hd] at ht2
        have hlt : decide (-((0 : Nat) : Int) < 0) = false := rfl
        go_wp2_with fail
        go_round
        case rel => refine ⟨q / 10, UInt8.ofNat (48 + q % 10) :: l, by omega, HQ.out, by go_num, ?_⟩; have hx := HD.out; rw [hd] at hx; rw [hx, hd, str_cons]
        case measure => simp only [intOf]; omega
      · have hlt : decide (-((q % 10 : Nat) : Int) < 0) = true := decide_eq_true (by omega)
        go_wp2_with fail
        go_round
        case rel => refine ⟨q / 10, UInt8.ofNat (48 + q % 10) :: l, by omega, HQ.out, by go_num, ?_⟩; rw [HD.out, str_cons]
        case measure => simp only [intOf]; omega

theorem specDecText (n : Int) (w : World) (h : -9223372036854775808 ≤ n ∧ n ≤ 9223372036854775807) :
    Calls Tryd.prog 9 #[.int .i64 n] w fun e w' => e = .returned (.string (str (Lib.itoa n))) ∧ w = w' := by
  by_cases h0 : n = 0
  · subst h0
    have HE : Hid ((⟨#[48]⟩ : ByteArray) = str (Lib.itoa 0)) := Lib.hid (by decide +kernel)
    go_enter Tryd.func9, Tryd.ntmps9
    go_wp2_with fail
    go_ret
    exact ⟨congrArg (fun x => Ending.returned (.string x)) HE.out, rfl⟩
  · by_cases hn : n < 0
    · obtain ⟨u, rfl⟩ : ∃ u : Nat, n = -(u : Int) := ⟨n.natAbs, by omega⟩
      exact specDecText_neg u w (by omega) (by omega)
    · obtain ⟨u, rfl⟩ := Int.eq_ofNat_of_zero_le (show 0 ≤ n by omega)
      exact specDecText_pos u w (by omega) (by omega)
end Go.Proofs.YtbflkcldjjpioaaDoor

/-
  NumText of the reference.
-/
namespace Go.Proofs.YtbflkcldjjpioaaDoor
open Go.RowKit
set_option linter.unusedVariables false
set_option linter.unusedSimpArgs false
set_option maxRecDepth 100000

/-- Digits with zeros ahead, more of them than k. -/
def padL (D : List UInt8) (k : Nat) : List UInt8 := List.replicate (k + 1 - D.length) 48 ++ D
theorem padL_done {D : List UInt8} {k i : Nat} (h : i = k + 1 - D.length) : padL D k = List.replicate i 48 ++ D := by rw [padL, h]
theorem padL_len (D : List UInt8) (k : Nat) : k < (padL D k).length := by rw [padL, List.length_append, List.length_replicate]; omega
theorem padL_le (D : List UInt8) (k : Nat) : (padL D k).length ≤ k + 1 + D.length := by rw [padL, List.length_append, List.length_replicate]; omega
/-- A text with a point ahead of its last digits. -/
def cutT (P : ByteArray) (e : Int) : ByteArray := P.extract 0 ((P.size : Int) + e).toNat ++ ((⟨#[46]⟩ : ByteArray) ++ P.extract ((P.size : Int) + e).toNat P.size)
noncomputable def numTextB (v : V) : ByteArray :=
  if okV v then
    if v.k = 3 then str (Lib.itoa v.n)
    else if v.k = 4 then
      if 0 < v.e then str (Lib.itoa v.n) ++ ((⟨#[101]⟩ : ByteArray) ++ str (Lib.itoa v.e))
      else if v.n < 0 then (⟨#[45]⟩ : ByteArray) ++ cutT (str (padL (Lib.decDigits v.n.natAbs) (-v.e).toNat)) v.e
      else cutT (str (padL (Lib.decDigits v.n.natAbs) (-v.e).toNat)) v.e
    else ⟨#[]⟩
  else ⟨#[]⟩
theorem str_size (l : List UInt8) : (str l).size = l.length := by simp [str, ByteArray.size]

set_option maxHeartbeats 2000000 in
theorem specPad (D : List UInt8) (K : Nat) (w : World) (hK : K ≤ 20) (hD : D.length ≤ 19) :
    Calls Tryd.prog 35 #[.string (str D), .int .i64 (K : Int)] w fun e w' => e = .returned (.string (str (padL D K))) ∧ w' = w := by
  go_enter Tryd.func35, Tryd.ntmps35
  go_wp2_with fail
  go_loop [0] (fun z => ∃ i : Nat, i ≤ K + 1 - D.length ∧ z = .string (str (List.replicate i 48 ++ D))) (fun z => (match z with | .string s => K + 1 - s.size | _ => 0))
  case atStart => exact ⟨0, Nat.zero_le _, by simp⟩
  case round =>
    obtain ⟨i, hi, rfl⟩ := hrel
    have hsz : (str (List.replicate i 48 ++ D)).size = i + D.length := by rw [str_size]; simp
    have HN : Hid ((⟨#[48]⟩ : ByteArray) ++ str (List.replicate i 48 ++ D) = str (List.replicate (i + 1) 48 ++ D)) := Lib.hid (by rw [List.replicate_succ]; rfl)
    have HN2 : Hid ((str (List.replicate (i + 1) 48 ++ D)).size = i + 1 + D.length) := Lib.hid (by rw [str_size]; simp)
    have HP := Lib.hid (padL_done (D := D) (k := K) (i := i))
    obtain ⟨s, hs⟩ : ∃ s, str (List.replicate i 48 ++ D) = s := ⟨_, rfl⟩
    have HS := Lib.hid hs
    rw [hs] at hsz HN ⊢
    clear hs
    by_cases hlt : s.size ≤ K
    · have q : decide ((s.size : Int) ≤ (K : Int)) = true := decide_eq_true (by omega)
      have hsm : s.size < 100 := by omega
      go_wp2_with fail
      go_round
      case rel => exact ⟨i + 1, by omega, congrArg Value.string HN.out⟩
      case measure => show K + 1 - _ < K + 1 - s.size; rw [HN.out, HN2.out]; omega
    · have q : decide ((s.size : Int) ≤ (K : Int)) = false := decide_eq_false (by omega)
      have hsm : s.size < 100 := by omega
      go_wp2_with fail
      go_ret
      exact ⟨congrArg (fun x => Ending.returned (.string x)) ((congrArg str (HP.out (by omega))).trans HS.out).symm, rfl⟩

theorem itoa_cut {n : Int} (h : n < 0) : (str (Lib.itoa n)).extract 1 (str (Lib.itoa n)).size = str (Lib.decDigits n.natAbs) := by
  obtain ⟨u, rfl⟩ : ∃ u : Nat, n = -(u : Int) := ⟨n.natAbs, by omega⟩
  rw [itoa_neg u (by omega), Int.natAbs_neg, Int.natAbs_natCast]
  apply ByteArray.ext
  apply Array.ext'
  simp [str, ByteArray.size]
theorem itoa_nat {n : Int} (h : ¬ n < 0) : str (Lib.itoa n) = str (Lib.decDigits n.natAbs) := by
  obtain ⟨u, rfl⟩ := Int.eq_ofNat_of_zero_le (show 0 ≤ n by omega)
  rw [itoa_pos, Int.natAbs_natCast]
theorem itoa_size {n : Int} (h : -9223372036854775808 ≤ n ∧ n ≤ 9223372036854775807) : 1 ≤ (str (Lib.itoa n)).size ∧ (str (Lib.itoa n)).size ≤ 20 := by
  by_cases h0 : n < 0
  · obtain ⟨u, rfl⟩ : ∃ u : Nat, n = -(u : Int) := ⟨n.natAbs, by omega⟩
    have := dec_len u (by omega)
    rw [itoa_neg u (by omega), str_size, List.length_cons]
    omega
  · rw [itoa_nat h0, str_size]
    have := dec_len n.natAbs (by omega)
    have := dec_ne n.natAbs
    have : (Lib.decDigits n.natAbs).length ≠ 0 := fun h => this (List.length_eq_zero_iff.1 h)
    omega

theorem assoc3 (a b c : ByteArray) : a ++ b ++ c = a ++ (b ++ c) := ByteArray.append_assoc
theorem cut_join (x P : ByteArray) (e : Int) : x ++ P.extract 0 ((P.size : Int) + e).toNat ++ (⟨#[46]⟩ : ByteArray) ++ P.extract ((P.size : Int) + e).toNat P.size = x ++ cutT P e := by
  rw [cutT, assoc3, assoc3]
theorem cut_join0 (P : ByteArray) (e : Int) : (⟨#[]⟩ : ByteArray) ++ P.extract 0 ((P.size : Int) + e).toNat ++ (⟨#[46]⟩ : ByteArray) ++ P.extract ((P.size : Int) + e).toNat P.size = cutT P e := by
  rw [cut_join]
  apply ByteArray.ext
  simp

set_option maxHeartbeats 8000000 in
theorem specNumText (v : V) (A : Option Addr) (cap : Nat) (w : World) (hf : v.fits) (hw : v.weight ≤ 1048576) (hat : Vs.at_ w 0 w.heap.size v.kids A) :
    Calls Tryd.prog 18 #[v.agg A cap] w fun e w' => e = .returned (.string (numTextB v)) ∧ Below w.heap.size w w' := by
  have HA := Lib.hid hat
  have hf3 := (V.fits_eq v).1 hf
  have hn := hf3.2.2.2.2.1
  have he := hf3.2.2.2.2.2
  unfold inI at hn he
  clear hat hf hf3
  have cN := fun W => specDecText v.n W hn
  have cE := fun W => specDecText v.e W he
  have HCN := Lib.hid cN
  have HCE := Lib.hid cE
  clear cN cE
  unfold V.agg
  go_enter Tryd.func18, Tryd.ntmps18
  go_wp2_with fail
  have b0 : Below w.heap.size w (w.alloc (.cells #[.int .i64 v.k, .int .i64 v.n, .int .i64 v.e, .string v.s, .slice A v.kids.length cap] 34)) := (Below.refl _ w).alloc (Nat.le_refl _) _
  refine (specValueOk v A cap _ hw (Vs.at_more (Nat.le_refl _) b0.size _ _ (Vs.at_below HA.out b0 (Nat.le_refl _)))).mono ?_
  rintro e w1 ⟨rfl, hb1⟩
  obtain ⟨p0, p1, p2, p3, p4⟩ := ((Blk.new w 34 #[.int .i64 v.k, .int .i64 v.n, .int .i64 v.e, .string v.s, .slice A v.kids.length cap]).below hb1 (by simp)).five
  have b1 : Below w.heap.size w w1 := b0.trans (hb1.mono b0.size)
  clear b0 hb1
  by_cases hok : okV v
  · rw [show decide (okV v) = true from decide_eq_true hok]
    have HU : Hid (numTextB v = if v.k = 3 then str (Lib.itoa v.n) else if v.k = 4 then if 0 < v.e then str (Lib.itoa v.n) ++ ((⟨#[101]⟩ : ByteArray) ++ str (Lib.itoa v.e)) else if v.n < 0 then (⟨#[45]⟩ : ByteArray) ++ cutT (str (padL (Lib.decDigits v.n.natAbs) (-v.e).toNat)) v.e else cutT (str (padL (Lib.decDigits v.n.natAbs) (-v.e).toNat)) v.e else ⟨#[]⟩) := Lib.hid (by rw [numTextB, if_pos hok])
    by_cases h3 : v.k = 3
    · have q3 : (v.k == 3) = true := by rw [h3]; rfl
      have HR := Lib.hid (HU.out.trans (if_pos h3))
      clear hok h3
      go_wp2_with fail
      refine (HCN.out w1).mono ?_
      rintro e w2 ⟨rfl, rfl⟩
      go_wp2_with fail
      go_ret
      exact ⟨congrArg (fun x => Ending.returned (.string x)) HR.out.symm, b1⟩
    have q3 : (v.k == 3) = false := by simpa using h3
    by_cases h4 : v.k = 4
    · have q4 : (v.k != 4) = false := by rw [h4]; rfl
      have HR := Lib.hid (HU.out.trans ((if_neg h3).trans (if_pos h4)))
      have hdec := (okV_leaf ⟨.inr h4, hok⟩).2.2.2 h4
      have hlow : -20 ≤ v.e := hdec.1
      have hnr : -999999999999999999 ≤ v.n ∧ v.n ≤ 999999999999999999 := ⟨hdec.2.2.2.1, hdec.2.2.2.2.1⟩
      clear hok h3 h4 hdec
      by_cases hp : 0 < v.e
      · have qp : decide (0 < v.e) = true := decide_eq_true hp
        have HR2 := Lib.hid (HR.out.trans (if_pos hp))
        clear hp
        go_wp2_with fail
        have hs1 := itoa_size hn
        have hs2 := itoa_size he
        obtain ⟨sN, hsN⟩ : ∃ sN, str (Lib.itoa v.n) = sN := ⟨_, rfl⟩
        obtain ⟨sE, hsE⟩ : ∃ sE, str (Lib.itoa v.e) = sE := ⟨_, rfl⟩
        rw [hsN] at HR2 hs1
        rw [hsE] at HR2 hs2
        have HSN := Lib.hid hsN
        have HSE := Lib.hid hsE
        clear HU HR hsN hsE HCN HCE
        go_region_with (go_at_call 9; refine (specDecText _ _ (by first | exact hn | exact he)).mono ?_; rintro e w2 ⟨rfl, rfl⟩; first | rw [HSN.out] | rw [HSE.out])
        all_goals go_wp2_with fail
        all_goals go_ret
        all_goals refine ⟨?_, b1.drew⟩
        all_goals rw [HR2.out]
        all_goals first | rfl | (rw [← assoc3]; rfl)
      · have qp : decide (0 < v.e) = false := decide_eq_false hp
        have HR2 := Lib.hid (HR.out.trans (if_neg hp))
        obtain ⟨D, hD⟩ : ∃ D, Lib.decDigits v.n.natAbs = D := ⟨_, rfl⟩
        have hDl : D.length ≤ 19 := by rw [← hD]; exact dec_len _ (by omega)
        obtain ⟨K, hK⟩ : ∃ K : Nat, (-v.e).toNat = K := ⟨_, rfl⟩
        have hK1 : v.e ≤ -(K : Int) := by omega
        have hK2 : -(K : Int) ≤ v.e := by omega
        have hKE : Hid (-v.e = (K : Int)) := Lib.hid (by omega)
        have hK20 : K ≤ 20 := by omega
        have HPAD := Lib.hid (fun W => specPad D K W hK20 hDl)
        have hPl : K < (str (padL D K)).size := by rw [str_size]; exact padL_len D K
        have hPm : (str (padL D K)).size ≤ K + 1 + D.length := by rw [str_size]; exact padL_le D K
        rw [hD, hK] at HR2
        obtain ⟨P, hP⟩ : ∃ P, str (padL D K) = P := ⟨_, rfl⟩
        rw [hP] at HPAD HR2 hPl hPm
        have hsz := itoa_size hn
        by_cases hneg : v.n < 0
        · have qn : decide (v.n < 0) = true := decide_eq_true hneg
          have HX := Lib.hid (itoa_cut hneg)
          rw [hD] at HX
          have HR3 := Lib.hid (HR2.out.trans (if_pos hneg))
          clear hneg hP hK hD
          go_wp2_with fail
          refine (HCN.out w1).mono ?_
          rintro e w2 ⟨rfl, rfl⟩
          obtain ⟨s, hs⟩ : ∃ s, str (Lib.itoa v.n) = s := ⟨_, rfl⟩
          rw [hs] at HX hsz ⊢
          clear hs
          go_wp2_with fail
          rw [HX.out, hKE.out]
          refine (HPAD.out _).mono ?_
          rintro e w2 ⟨rfl, rfl⟩
          go_wp2_with fail
          go_quiet (fail)
          go_wp2_with fail
          go_ret
          exact ⟨congrArg (fun x => Ending.returned (.string x)) ((cut_join _ _ _).trans HR3.out.symm), below_drewN b1 _⟩
        · have qn : decide (v.n < 0) = false := decide_eq_false hneg
          have HX := Lib.hid (itoa_nat hneg)
          rw [hD] at HX
          have HR3 := Lib.hid (HR2.out.trans (if_neg hneg))
          clear hneg hP hK hD
          go_wp2_with fail
          refine (HCN.out w1).mono ?_
          rintro e w2 ⟨rfl, rfl⟩
          rw [HX.out]
          go_wp2_with fail
          rw [hKE.out]
          refine (HPAD.out _).mono ?_
          rintro e w2 ⟨rfl, rfl⟩
          go_wp2_with fail
          go_quiet (fail)
          go_wp2_with fail
          go_ret
          exact ⟨congrArg (fun x => Ending.returned (.string x)) ((cut_join0 _ _).trans HR3.out.symm), below_drewN b1 _⟩
    · have q4 : (v.k != 4) = true := by simpa using h4
      have HR := Lib.hid (HU.out.trans ((if_neg h3).trans (if_neg h4)))
      clear hok h3 h4
      go_wp2_with fail
      go_ret
      exact ⟨congrArg (fun x => Ending.returned (.string x)) HR.out.symm, b1⟩
  · rw [show decide (okV v) = false from decide_eq_false hok]
    have HR : Hid (numTextB v = ⟨#[]⟩) := Lib.hid (by rw [numTextB, if_neg hok])
    clear hok
    go_wp2_with fail
    go_ret
    exact ⟨congrArg (fun x => Ending.returned (.string x)) HR.out.symm, b1⟩
end Go.Proofs.YtbflkcldjjpioaaDoor

/-
  The reference's order of two numbers and of two texts.
-/
namespace Go.Proofs.YtbflkcldjjpioaaDoor
open Go.RowKit
set_option linter.unusedVariables false
set_option maxRecDepth 100000
set_option linter.unusedSimpArgs false

theorem specLess (a b : Int) (w : World) : Calls Tryd.prog 38 #[.int .i64 a, .int .i64 b] w fun e w' => e = .returned (.int .i64 (lessI a b)) ∧ w' = w := by
  by_cases h1 : a < b
  · have h := lessI_lt h1
    have H := Lib.hid h
    clear h
    go_enter Tryd.func38, Tryd.ntmps38
    go_wp2_with fail
    go_ret
    exact ⟨ret_num (by rw [H.out]), rfl⟩
  · by_cases h2 : b < a
    · have h := lessI_gt h2
      have H := Lib.hid h
      clear h
      go_enter Tryd.func38, Tryd.ntmps38
      go_wp2_with fail
      go_ret
      exact ⟨ret_num (by rw [H.out]), rfl⟩
    · obtain rfl : a = b := by omega
      have h := lessI_eq a
      have H := Lib.hid h
      clear h
      go_enter Tryd.func38, Tryd.ntmps38
      go_wp2_with fail
      go_ret
      exact ⟨ret_num (by rw [H.out]), rfl⟩

theorem specTexts (a b : ByteArray) (w : World) : Calls Tryd.prog 65 #[.string a, .string b] w fun e w' => e = .returned (.int .i64 (lessT a b)) ∧ w' = w := by
  by_cases h1 : Op.bytesLess a.toList b.toList = true
  · have h : lessT a b = -1 := by unfold lessT; rw [if_pos h1]
    have H := Lib.hid h
    clear h
    go_enter Tryd.func65, Tryd.ntmps65
    go_wp2_with fail
    go_ret
    exact ⟨ret_num (by rw [H.out]), rfl⟩
  · have h1' : Op.bytesLess a.toList b.toList = false := by simpa using h1
    by_cases h2 : (a.toList == b.toList) = true
    · have h : lessT a b = 0 := by unfold lessT; rw [if_neg h1, if_pos h2]
      have H := Lib.hid h
      clear h h1
      go_enter Tryd.func65, Tryd.ntmps65
      go_wp2_with fail
      go_ret
      exact ⟨ret_num (by rw [H.out]), rfl⟩
    · have h : lessT a b = 1 := by unfold lessT; rw [if_neg h1, if_neg h2]
      have h2' : (a.toList == b.toList) = false := by simpa using h2
      have H := Lib.hid h
      clear h h1 h2
      go_enter Tryd.func65, Tryd.ntmps65
      go_wp2_with fail
      go_ret
      exact ⟨ret_num (by rw [H.out]), rfl⟩
end Go.Proofs.YtbflkcldjjpioaaDoor

/-
  CompareNum of the reference.
-/
namespace Go.Proofs.YtbflkcldjjpioaaDoor
open Go.RowKit
set_option linter.unusedVariables false
set_option linter.unusedSimpArgs false
set_option maxRecDepth 100000

theorem fits_n {v : V} (h : v.fits) : (-9223372036854775808 ≤ v.n ∧ v.n ≤ 9223372036854775807) ∧ (-9223372036854775808 ≤ v.e ∧ v.e ≤ 9223372036854775807) := by
  have h3 := (V.fits_eq v).1 h
  have h1 := h3.2.2.2.2.1
  have h2 := h3.2.2.2.2.2
  unfold inI at h1 h2
  exact ⟨h1, h2⟩
set_option maxHeartbeats 1000000 in
theorem specSgn (v : V) (A : Option Addr) (cap : Nat) (w : World) :
    Calls Tryd.prog 37 #[v.agg A cap] w fun e w' => e = .returned (.int .i64 (sgR v)) ∧ Below w.heap.size w w' := by
  unfold V.agg
  go_enter Tryd.func37, Tryd.ntmps37
  go_wp2_with fail
  refine (specLess v.n 0 _).mono ?_
  rintro e w1 ⟨rfl, rfl⟩
  go_wp2_with fail
  go_ret
  exact ⟨rfl, (Below.refl _ w).alloc (Nat.le_refl _) _⟩

/-- What stands while noughts are cut: m of them are left. -/
theorem tail_size (T : List UInt8) (m : Nat) : (str (T ++ List.replicate m 48)).size = T.length + m := by rw [strlen]; simp
theorem tail_cut (T : List UInt8) (m : Nat) : (str (T ++ List.replicate (m + 1) 48)).extract 0 (T.length + m) = str (T ++ List.replicate m 48) := by
  apply ByteArray.ext
  apply Array.ext'
  have e : (T ++ List.replicate (m + 1) 48) = (T ++ List.replicate m 48) ++ [48] := by rw [List.replicate_succ', List.append_assoc]
  rw [e, ByteArray.data_extract]
  simp only [str, Array.toList_extract, List.extract_eq_take_drop, List.drop_zero, Nat.sub_zero]
  exact List.take_left' (by simp)
theorem tail_last (T : List UInt8) (m : Nat) (h : T.length + m < (str (T ++ List.replicate (m + 1) 48)).size) : (str (T ++ List.replicate (m + 1) 48))[T.length + m] = 48 := by
  have h2 : T.length + m < (T ++ List.replicate (m + 1) 48).length := by simp
  have h3 : (T ++ List.replicate (m + 1) 48)[T.length + m] = 48 := by rw [List.getElem_append_right (by omega)]; simp
  exact h3
theorem last_of {l r : List UInt8} {a : UInt8} (h : l = r ++ [a]) (h2 : r.length < (str l).size) : (str l)[r.length]'h2 = a := by
  subst h
  have h4 : r.length < (r ++ [a]).length := by simp
  have h3 : (r ++ [a])[r.length]'h4 = a := by simp
  exact h3
theorem tup_si {s s' : ByteArray} {b b' : Int} (h1 : s = s') (h2 : b = b') : Ending.returned (.tuple #[.string s, .int .i64 b]) = Ending.returned (.tuple #[.string s', .int .i64 b']) := by rw [h1, h2]
set_option maxHeartbeats 8000000 in
theorem specParts (v : V) (A : Option Addr) (cap : Nat) (w : World) (hf : v.fits) (he : -100 ≤ v.e ∧ v.e ≤ 100) :
    Calls Tryd.prog 64 #[v.agg A cap] w fun e w' => e = .returned (.tuple #[.string (str (cutZ v.digs)), .int .i64 v.cutE]) ∧ Below w.heap.size w w' := by
  have HCN := Lib.hid (fun W => (specDecText v.n W (fits_n hf).1).mono fun e w' h => (⟨h.1, h.2.symm⟩ : e = .returned (.string (str (Lib.itoa v.n))) ∧ w' = W))
  have hvn := (fits_n hf).1
  have hds : v.digs.length ≤ 19 := dec_len _ (by omega)
  have hcz := cutZ_len v.digs
  obtain ⟨K, hK⟩ : ∃ K, v.digs.length - (cutZ v.digs).length = K := ⟨_, rfl⟩
  have HSP : Hid (str v.digs = str (cutZ v.digs ++ List.replicate K 48)) := Lib.hid (by rw [← hK, ← cutZ_split])
  have HE : Hid (v.cutE = v.e + (K : Int)) := Lib.hid (by unfold V.cutE; rw [hK])
  have hKl : K ≤ 19 := by omega
  clear hf hK
  have b0 : Below w.heap.size w (w.alloc (.cells #[.int .i64 v.k, .int .i64 v.n, .int .i64 v.e, .string v.s, .slice A v.kids.length cap] 34)) := (Below.refl _ w).alloc (Nat.le_refl _) _
  obtain ⟨w0, hw0⟩ : ∃ w0, w0 = w.alloc (.cells #[.int .i64 v.k, .int .i64 v.n, .int .i64 v.e, .string v.s, .slice A v.kids.length cap] 34) := ⟨_, rfl⟩
  have B0 : Blk w0 w.heap.size 34 #[.int .i64 v.k, .int .i64 v.n, .int .i64 v.e, .string v.s, .slice A v.kids.length cap] := by rw [hw0]; exact Blk.new w _ _
  rw [← hw0] at b0
  have HV0 := Lib.hid B0
  have HB0 := Lib.hid b0
  obtain ⟨p0, p1, p2, p3, p4⟩ := B0.five
  clear B0 b0
  unfold V.agg
  go_enter Tryd.func64, Tryd.ntmps64
  go_wp2_with fail
  rw [← hw0]
  clear hw0
  go_quiet ((go_at_call 9; exact Calls.quiet_of_same (HCN.out _)))
  have HB1 : Hid (Below w.heap.size w (w0.drewN nq)) := Lib.hid (below_drewN HB0.out nq)
  have HV1 : Hid (Blk (w0.drewN nq) w.heap.size 34 #[.int .i64 v.k, .int .i64 v.n, .int .i64 v.e, .string v.s, .slice A v.kids.length cap]) := HV0
  obtain ⟨w1, hw1⟩ : ∃ w1, w0.drewN nq = w1 := ⟨_, rfl⟩
  rw [hw1] at HB1 HV1 ⊢
  clear hw1 p0 p1 p2 p3 p4
  obtain ⟨p0, p1, p2, p3, p4⟩ := HV1.out.five
  by_cases hneg : v.n < 0
  · have qn : decide (v.n < 0) = true := decide_eq_true hneg
    have hsz := itoa_size hvn
    have HX := Lib.hid (itoa_cut hneg)
    obtain ⟨s0, hs0⟩ : ∃ s0, str (Lib.itoa v.n) = s0 := ⟨_, rfl⟩
    rw [hs0] at HX hsz ⊢
    have hx : s0.extract 1 s0.size = str v.digs := HX.out
    clear hneg hs0 HX
    go_wp2_with fail
    try rw [hx]
    clear hsz hx

    go_loopw [4, 5] (fun s e wr => ∃ m : Nat, m ≤ K ∧ s = .string (str (cutZ v.digs ++ List.replicate m 48)) ∧ e = .int .i64 (v.e + ((K - m : Nat) : Int)) ∧ Below w.heap.size w wr) (fun s _ _ => (match s with | .string x => x.size | _ => 0))
    case atStart => exact ⟨K, Nat.le_refl _, congrArg Value.string HSP.out, by simp, HB1.out⟩
    case round =>
      obtain ⟨m, hm, rfl, rfl, hb⟩ := hrel
      have hsz0 := tail_size (cutZ v.digs) m
      by_cases hm0 : 0 < m
      · obtain ⟨m, rfl⟩ : ∃ k, m = k + 1 := ⟨m - 1, by omega⟩
        have HC := Lib.hid (tail_cut (cutZ v.digs) m)
        have HZ2 := Lib.hid (tail_size (cutZ v.digs) m)
        clear hsz0
        have hsz0 := tail_size (cutZ v.digs) (m + 1)
        have hl := tail_last (cutZ v.digs) m (by omega)
        obtain ⟨s, hs⟩ : ∃ s, str (cutZ v.digs ++ List.replicate (m + 1) 48) = s := ⟨_, rfl⟩
        simp only [hs] at HC hsz0 hl ⊢
        have hx : ∀ h, (s[s.size - 1]'h).toNat = 48 := by
          intro h
          have : s.size - 1 = (cutZ v.digs).length + m := by omega
          simp only [this, hl]
          rfl
        have hx2 : s.extract 0 (s.size - 1) = str (cutZ v.digs ++ List.replicate m 48) := by
          rw [show s.size - 1 = (cutZ v.digs).length + m by omega]
          exact HC.out
        have HX := Lib.hid hx2
        have hsz : s.size ≤ (cutZ v.digs).length + (m + 1) := by omega
        have hsz3 : (cutZ v.digs).length + (m + 1) ≤ s.size := by omega
        clear hl hs hx2 hsz0
        go_wp2_with fail
        go_roundw
        case rel => exact ⟨m, by omega, congrArg Value.string HX.out, by go_num, hb⟩
        case measure => show ByteArray.size _ < s.size; rw [HX.out, HZ2.out]; omega
      · obtain rfl : m = 0 := by omega
        have hs0 : str (cutZ v.digs ++ List.replicate 0 48) = str (cutZ v.digs) := by simp
        rw [hs0]
        have hzz : (str (cutZ v.digs)).size = (cutZ v.digs).length := strlen _
        have hKe : Hid (v.e + ((K - 0 : Nat) : Int) = v.cutE) := Lib.hid (by rw [HE.out]; simp)
        rcases List.eq_nil_or_concat (cutZ v.digs) with hnil | ⟨r, a, hr⟩
        · have hz : (str (cutZ v.digs)).size = 0 := by rw [hzz, hnil]; rfl
          obtain ⟨s, hs⟩ : ∃ s, str (cutZ v.digs) = s := ⟨_, rfl⟩
          rw [hs] at hz ⊢
          have HS := Lib.hid hs
          clear hs hnil hsz0 hs0 hzz hm0
          go_wp2_with fail
          go_ret2
          exact ⟨tup_si HS.out.symm hKe.out, hb⟩
        · rw [List.concat_eq_append] at hr
          have hz : (str (cutZ v.digs)).size = r.length + 1 := by rw [hzz, hr]; simp
          have ha := cutZ_last hr
          have han : ((a.toNat : Int) == 48) = false := by
            rw [beq_eq_false_iff_ne]
            intro h
            exact ha (UInt8.toNat_inj.1 (show a.toNat = 48 by omega))
          have hx : ∀ h, ((str (cutZ v.digs))[(str (cutZ v.digs)).size - 1]'h).toNat = a.toNat := by
            intro h
            have e1 : (str (cutZ v.digs)).size - 1 = r.length := by omega
            have h2 : r.length < (str (cutZ v.digs)).size := by omega
            have e2 : (str (cutZ v.digs))[r.length]'h2 = a := last_of hr h2
            simp only [e1, e2]
          obtain ⟨s, hs⟩ : ∃ s, str (cutZ v.digs) = s := ⟨_, rfl⟩
          rw [hs] at hz hx ⊢
          have HS := Lib.hid hs
          have hcl := hcz
          rw [hr] at hcl
          simp only [List.length_append, List.length_cons, List.length_nil] at hcl
          have hz3 : s.size ≤ r.length + 1 := by omega
          have hz4 : r.length + 1 ≤ s.size := by omega
          clear hs hr hsz0 hs0 hzz hm0 hz
          go_wp2_with fail
          go_ret2
          exact ⟨tup_si HS.out.symm hKe.out, hb⟩
  · have qn : decide (v.n < 0) = false := decide_eq_false hneg
    have HX := Lib.hid (itoa_nat hneg)
    rw [show str (Lib.itoa v.n) = str v.digs from HX.out]
    clear hneg HX
    go_wp2_with fail

    go_loopw [4, 5] (fun s e wr => ∃ m : Nat, m ≤ K ∧ s = .string (str (cutZ v.digs ++ List.replicate m 48)) ∧ e = .int .i64 (v.e + ((K - m : Nat) : Int)) ∧ Below w.heap.size w wr) (fun s _ _ => (match s with | .string x => x.size | _ => 0))
    case atStart => exact ⟨K, Nat.le_refl _, congrArg Value.string HSP.out, by simp, HB1.out⟩
    case round =>
      obtain ⟨m, hm, rfl, rfl, hb⟩ := hrel
      have hsz0 := tail_size (cutZ v.digs) m
      by_cases hm0 : 0 < m
      · obtain ⟨m, rfl⟩ : ∃ k, m = k + 1 := ⟨m - 1, by omega⟩
        have HC := Lib.hid (tail_cut (cutZ v.digs) m)
        have HZ2 := Lib.hid (tail_size (cutZ v.digs) m)
        clear hsz0
        have hsz0 := tail_size (cutZ v.digs) (m + 1)
        have hl := tail_last (cutZ v.digs) m (by omega)
        obtain ⟨s, hs⟩ : ∃ s, str (cutZ v.digs ++ List.replicate (m + 1) 48) = s := ⟨_, rfl⟩
        simp only [hs] at HC hsz0 hl ⊢
        have hx : ∀ h, (s[s.size - 1]'h).toNat = 48 := by
          intro h
          have : s.size - 1 = (cutZ v.digs).length + m := by omega
          simp only [this, hl]
          rfl
        have hx2 : s.extract 0 (s.size - 1) = str (cutZ v.digs ++ List.replicate m 48) := by
          rw [show s.size - 1 = (cutZ v.digs).length + m by omega]
          exact HC.out
        have HX := Lib.hid hx2
        have hsz : s.size ≤ (cutZ v.digs).length + (m + 1) := by omega
        have hsz3 : (cutZ v.digs).length + (m + 1) ≤ s.size := by omega
        clear hl hs hx2 hsz0
        go_wp2_with fail
        go_roundw
        case rel => exact ⟨m, by omega, congrArg Value.string HX.out, by go_num, hb⟩
        case measure => show ByteArray.size _ < s.size; rw [HX.out, HZ2.out]; omega
      · obtain rfl : m = 0 := by omega
        have hs0 : str (cutZ v.digs ++ List.replicate 0 48) = str (cutZ v.digs) := by simp
        rw [hs0]
        have hzz : (str (cutZ v.digs)).size = (cutZ v.digs).length := strlen _
        have hKe : Hid (v.e + ((K - 0 : Nat) : Int) = v.cutE) := Lib.hid (by rw [HE.out]; simp)
        rcases List.eq_nil_or_concat (cutZ v.digs) with hnil | ⟨r, a, hr⟩
        · have hz : (str (cutZ v.digs)).size = 0 := by rw [hzz, hnil]; rfl
          obtain ⟨s, hs⟩ : ∃ s, str (cutZ v.digs) = s := ⟨_, rfl⟩
          rw [hs] at hz ⊢
          have HS := Lib.hid hs
          clear hs hnil hsz0 hs0 hzz hm0
          go_wp2_with fail
          go_ret2
          exact ⟨tup_si HS.out.symm hKe.out, hb⟩
        · rw [List.concat_eq_append] at hr
          have hz : (str (cutZ v.digs)).size = r.length + 1 := by rw [hzz, hr]; simp
          have ha := cutZ_last hr
          have han : ((a.toNat : Int) == 48) = false := by
            rw [beq_eq_false_iff_ne]
            intro h
            exact ha (UInt8.toNat_inj.1 (show a.toNat = 48 by omega))
          have hx : ∀ h, ((str (cutZ v.digs))[(str (cutZ v.digs)).size - 1]'h).toNat = a.toNat := by
            intro h
            have e1 : (str (cutZ v.digs)).size - 1 = r.length := by omega
            have h2 : r.length < (str (cutZ v.digs)).size := by omega
            have e2 : (str (cutZ v.digs))[r.length]'h2 = a := last_of hr h2
            simp only [e1, e2]
          obtain ⟨s, hs⟩ : ∃ s, str (cutZ v.digs) = s := ⟨_, rfl⟩
          rw [hs] at hz hx ⊢
          have HS := Lib.hid hs
          have hcl := hcz
          rw [hr] at hcl
          simp only [List.length_append, List.length_cons, List.length_nil] at hcl
          have hz3 : s.size ≤ r.length + 1 := by omega
          have hz4 : r.length + 1 ≤ s.size := by omega
          clear hs hr hsz0 hs0 hzz hm0 hz
          go_wp2_with fail
          go_ret2
          exact ⟨tup_si HS.out.symm hKe.out, hb⟩
theorem empty_str {l : List UInt8} (h : l = []) : (str l).toList.isEmpty = true := by subst h; rw [ByteArray.toList_eq]; rfl
theorem full_str {l : List UInt8} (h : l ≠ []) : (str l).toList.isEmpty = false := by
  rw [ByteArray.toList_eq]
  cases l with
  | nil => exact absurd rfl h
  | cons a l => rfl
set_option maxHeartbeats 4000000 in
theorem specSize (a b : V) (A B : Option Addr) (ca cb : Nat) (w : World) (hfa : a.fits) (hfb : b.fits) (hea : -100 ≤ a.e ∧ a.e ≤ 100) (heb : -100 ≤ b.e ∧ b.e ≤ 100) (hz : (a.n ≠ 0 ∧ b.n ≠ 0) ∨ (a.n = 0 ∧ b.n = 0)) :
    Calls Tryd.prog 39 #[a.agg A ca, b.agg B cb] w fun e w' => e = .returned (.int .i64 (if a.n = 0 then 0 else sizeR a b)) ∧ Below w.heap.size w w' := by
  obtain ⟨rr, hrr⟩ : ∃ rr, (if a.n = 0 then 0 else sizeR a b) = rr := ⟨_, rfl⟩
  rw [hrr]
  have HPA := Lib.hid (fun W => specParts a A ca W hfa hea)
  have HPB := Lib.hid (fun W => specParts b B cb W hfb heb)
  have hna := (fits_n hfa).1
  have hnb := (fits_n hfb).1
  have hda : a.digs.length ≤ 19 := dec_len _ (by omega)
  have hdb : b.digs.length ≤ 19 := dec_len _ (by omega)
  have hca := cutZ_len a.digs
  have hcb := cutZ_len b.digs
  have hma := a.cut_mag
  have hmb := b.cut_mag
  have hsa : (str (cutZ a.digs)).size = (cutZ a.digs).length := strlen _
  have hsb : (str (cutZ b.digs)).size = (cutZ b.digs).length := strlen _
  have hse : sizeR a b = if lessI a.mag b.mag = 0 then lessT (str (cutZ a.digs)) (str (cutZ b.digs)) else lessI a.mag b.mag := rfl
  rw [← hma, ← hmb, ← hsa, ← hsb] at hse
  have hEa : -100 ≤ a.cutE ∧ a.cutE ≤ 200 := by unfold V.cutE; omega
  have hEb : -100 ≤ b.cutE ∧ b.cutE ≤ 200 := by unfold V.cutE; omega
  have hia : (str (cutZ a.digs)).toList.isEmpty = decide (a.n = 0) := by
    by_cases h : a.n = 0
    · rw [decide_eq_true h]
      exact empty_str (by unfold V.digs; rw [h]; decide +kernel)
    · rw [decide_eq_false h]
      exact full_str (cutZ_dec (by omega))
  have hib : (str (cutZ b.digs)).toList.isEmpty = decide (b.n = 0) := by
    by_cases h : b.n = 0
    · rw [decide_eq_true h]
      exact empty_str (by unfold V.digs; rw [h]; decide +kernel)
    · rw [decide_eq_false h]
      exact full_str (cutZ_dec (by omega))
  have hsz0 : a.n = 0 → b.n = 0 → (str (cutZ a.digs)).size = (str (cutZ b.digs)).size := by
    intro h1 h2
    unfold V.digs
    rw [h1, h2]
  obtain ⟨x, hx⟩ : ∃ x, str (cutZ a.digs) = x := ⟨_, rfl⟩
  obtain ⟨y, hy⟩ : ∃ y, str (cutZ b.digs) = y := ⟨_, rfl⟩
  rw [hx] at hse hia hsa hsz0
  rw [hy] at hse hib hsb hsz0
  rw [hx] at HPA
  rw [hy] at HPB
  have hx20 : x.size ≤ 19 := by omega
  have hy20 : y.size ≤ 19 := by omega
  have HSE := Lib.hid hse
  obtain ⟨ea, hea'⟩ : ∃ ea, a.cutE = ea := ⟨_, rfl⟩
  obtain ⟨eb, heb'⟩ : ∃ eb, b.cutE = eb := ⟨_, rfl⟩
  rw [hea'] at HSE HPA hEa
  rw [heb'] at HSE HPB hEb
  have hsz := hsz0
  clear hse hma hmb hca hcb hda hdb hsa hsb hx hy hea' heb' hna hnb hea heb hsz0
  unfold V.agg at HPA HPB ⊢
  go_enter Tryd.func39, Tryd.ntmps39
  go_wp2_with fail
  obtain ⟨w2, hw2, Ba, Bb, b1, z2⟩ := two_new w 34 34 #[.int .i64 a.k, .int .i64 a.n, .int .i64 a.e, .string a.s, .slice A a.kids.length ca] #[.int .i64 b.k, .int .i64 b.n, .int .i64 b.e, .string b.s, .slice B b.kids.length cb]
  rw [← hw2]
  clear hw2
  obtain ⟨p0, p1, p2, p3, p4⟩ := Ba.five
  obtain ⟨q0, q1, q2, q3, q4⟩ := Bb.five
  go_wp2_with fail
  refine (HPA.out w2).mono ?_
  rintro e w3 ⟨rfl, hb3⟩
  have Bb3 := Bb.below hb3 Bb.lt
  have b3 := b1.trans (hb3.mono b1.size)
  clear p0 p1 p2 p3 p4 q0 q1 q2 q3 q4 hb3 Ba Bb b1
  obtain ⟨q0, q1, q2, q3, q4⟩ := Bb3.five
  go_wp2_with fail
  refine (HPB.out w3).mono ?_
  rintro e w4 ⟨rfl, hb4⟩
  have b4 := b3.trans (hb4.mono b3.size)
  clear q0 q1 q2 q3 q4 hb4 Bb3 b3
  rcases hz with ⟨ha, hb⟩ | ⟨ha, hb⟩
  · rw [decide_eq_false ha] at hia
    rw [decide_eq_false hb] at hib
    rw [if_neg ha] at hrr
    rw [hrr] at HSE
    clear ha hb hsz hrr
    go_wp2_with fail
    refine (specLess _ _ _).mono ?_
    rintro e w5 ⟨rfl, rfl⟩
    by_cases h0 : lessI ((x.size : Int) + ea) ((y.size : Int) + eb) = 0
    · have HR := Lib.hid (HSE.out.trans (if_pos h0))
      rw [h0]
      clear h0
      go_wp2_with fail
      refine (specTexts _ _ _).mono ?_
      rintro e w6 ⟨rfl, rfl⟩
      go_wp2_with fail
      go_ret
      exact ⟨ret_num HR.out.symm, b4⟩
    · have HR := Lib.hid (HSE.out.trans (if_neg h0))
      have hne : (lessI ((x.size : Int) + ea) ((y.size : Int) + eb) != 0) = true := by simpa using h0
      obtain ⟨r, hr⟩ : ∃ r, lessI ((x.size : Int) + ea) ((y.size : Int) + eb) = r := ⟨_, rfl⟩
      rw [hr] at HR hne ⊢
      clear h0 hr
      go_wp2_with fail
      go_ret
      exact ⟨ret_num HR.out.symm, b4⟩
  · rw [decide_eq_true ha] at hia
    have hxy := hsz ha hb
    rw [if_pos ha] at hrr
    have HRR := Lib.hid hrr
    clear ha hb hsz hib hrr
    go_wp2_with fail
    refine (specLess _ _ _).mono ?_
    rintro e w5 ⟨rfl, rfl⟩
    go_wp2_with fail
    go_ret
    exact ⟨ret_num (by first | (rw [lessI_eq, HRR.out]) | (rw [hxy, lessI_eq, HRR.out])), b4⟩
end Go.Proofs.YtbflkcldjjpioaaDoor

/-
  CompareNum of the reference.
-/
namespace Go.Proofs.YtbflkcldjjpioaaDoor
open Go.RowKit
set_option linter.unusedVariables false
set_option linter.unusedSimpArgs false
set_option maxRecDepth 100000

theorem numOk_e {v : V} (h : numOk v) : -100 ≤ v.e ∧ v.e ≤ 100 := by have := numOk_n h; omega

set_option maxHeartbeats 8000000 in
theorem specCompareNum (a b : V) (A B : Option Addr) (ca cb : Nat) (w : World) (hfa : a.fits) (hfb : b.fits) (hwa : a.weight ≤ 1048576) (hwb : b.weight ≤ 1048576) (hat : Vs.at_ w 0 w.heap.size a.kids A) (hbt : Vs.at_ w 0 w.heap.size b.kids B) :
    Calls Tryd.prog 20 #[a.agg A ca, b.agg B cb] w fun e w' => e = .returned (.int .i64 (cnR a b)) ∧ Below w.heap.size w w' := by
  have HA := Lib.hid hat
  have HB := Lib.hid hbt
  have HFa := Lib.hid hfa
  have HFb := Lib.hid hfb
  have cA := fun W h => specIs a A ca W hwa h
  have cB := fun W h => specIs b B cb W hwb h
  have sA := fun W => specSgn a A ca W
  have sB := fun W => specSgn b B cb W
  have HNO := Lib.hid (cnR_no (a := a) (b := b))
  unfold V.agg at cA cB sA sB
  have HCA := Lib.hid cA
  have HCB := Lib.hid cB
  have HSA := Lib.hid sA
  have HSB := Lib.hid sB
  clear hat hbt hfa hfb cA cB sA sB
  unfold V.agg
  go_enter Tryd.func20, Tryd.ntmps20
  go_wp2_with fail
  obtain ⟨w2, hw2, Ba, Bb, b1, z2⟩ := two_new w 34 34 #[.int .i64 a.k, .int .i64 a.n, .int .i64 a.e, .string a.s, .slice A a.kids.length ca] #[.int .i64 b.k, .int .i64 b.n, .int .i64 b.e, .string b.s, .slice B b.kids.length cb]
  rw [← hw2]
  clear hw2
  obtain ⟨p0, p1, p2, p3, p4⟩ := Ba.five
  obtain ⟨q0, q1, q2, q3, q4⟩ := Bb.five
  go_wp2_with fail
  refine (HCA.out w2 (Vs.at_more (Nat.le_refl _) b1.size _ _ (Vs.at_below HA.out b1 (Nat.le_refl _)))).mono ?_
  rintro e w3 ⟨rfl, hb3⟩
  have Ba3 := Ba.below hb3 Ba.lt
  have Bb3 := Bb.below hb3 Bb.lt
  have b3 := b1.trans (hb3.mono b1.size)
  clear p0 p1 p2 p3 p4 q0 q1 q2 q3 q4 hb3 Ba Bb b1
  obtain ⟨p0, p1, p2, p3, p4⟩ := Ba3.five
  obtain ⟨q0, q1, q2, q3, q4⟩ := Bb3.five
  by_cases hna : numOk a
  · rw [show decide (numOk a) = true from decide_eq_true hna]
    have HNA := Lib.hid hna
    clear hna
    go_wp2_with fail
    refine (HCB.out w3 (Vs.at_more (Nat.le_refl _) b3.size _ _ (Vs.at_below HB.out b3 (Nat.le_refl _)))).mono ?_
    rintro e w4 ⟨rfl, hb4⟩
    have Ba4 := Ba3.below hb4 Ba3.lt
    have Bb4 := Bb3.below hb4 Bb3.lt
    have b4 := b3.trans (hb4.mono b3.size)
    clear p0 p1 p2 p3 p4 q0 q1 q2 q3 q4 hb4 Ba3 Bb3 b3
    obtain ⟨p0, p1, p2, p3, p4⟩ := Ba4.five
    obtain ⟨q0, q1, q2, q3, q4⟩ := Bb4.five
    by_cases hnb : numOk b
    · rw [show decide (numOk b) = true from decide_eq_true hnb]
      have HN : Hid (numOk a ∧ numOk b) := Lib.hid ⟨HNA.out, hnb⟩
      have HEa := Lib.hid (numOk_e HNA.out)
      have HEb := Lib.hid (numOk_e hnb)
      clear hnb
      go_wp2_with fail
      have KE : Hid (∀ w' : World, Below w4.heap.size w4 w' → w'.cell? ⟨w.heap.size, 0, none⟩ = some (.int .i64 a.k) ∧ w'.cell? ⟨w.heap.size, 1, none⟩ = some (.int .i64 a.n) ∧ w'.cell? ⟨w.heap.size, 2, none⟩ = some (.int .i64 a.e) ∧ w'.cell? ⟨w.heap.size, 3, none⟩ = some (.string a.s) ∧ w'.cell? ⟨w.heap.size, 4, none⟩ = some (.slice A a.kids.length ca) ∧ w'.cell? ⟨w.heap.size + 1, 0, none⟩ = some (.int .i64 b.k) ∧ w'.cell? ⟨w.heap.size + 1, 1, none⟩ = some (.int .i64 b.n) ∧ w'.cell? ⟨w.heap.size + 1, 2, none⟩ = some (.int .i64 b.e) ∧ w'.cell? ⟨w.heap.size + 1, 3, none⟩ = some (.string b.s) ∧ w'.cell? ⟨w.heap.size + 1, 4, none⟩ = some (.slice B b.kids.length cb)) := Lib.hid (fun w' hb => by
        have X := (Ba4.below hb Ba4.lt).five
        have Y := (Bb4.below hb Bb4.lt).five
        exact ⟨X.1, X.2.1, X.2.2.1, X.2.2.2.1, X.2.2.2.2, Y.1, Y.2.1, Y.2.2.1, Y.2.2.2.1, Y.2.2.2.2⟩)
      have hbr : Below w4.heap.size w4 w4 := Below.refl _ _
      go_region_held3 (fun w' => w'.cell? ⟨w.heap.size, 0, none⟩ = some (.int .i64 a.k) ∧ w'.cell? ⟨w.heap.size, 1, none⟩ = some (.int .i64 a.n) ∧ w'.cell? ⟨w.heap.size, 2, none⟩ = some (.int .i64 a.e) ∧ w'.cell? ⟨w.heap.size, 3, none⟩ = some (.string a.s) ∧ w'.cell? ⟨w.heap.size, 4, none⟩ = some (.slice A a.kids.length ca) ∧ w'.cell? ⟨w.heap.size + 1, 0, none⟩ = some (.int .i64 b.k) ∧ w'.cell? ⟨w.heap.size + 1, 1, none⟩ = some (.int .i64 b.n) ∧ w'.cell? ⟨w.heap.size + 1, 2, none⟩ = some (.int .i64 b.e) ∧ w'.cell? ⟨w.heap.size + 1, 3, none⟩ = some (.string b.s) ∧ w'.cell? ⟨w.heap.size + 1, 4, none⟩ = some (.slice B b.kids.length cb))
        (first | exact KE.out _ ((hbr.drew.trans hbA).trans (hbB.mono hbA.size)) | exact KE.out _ (hbr.drew.trans hbA) | exact KE.out _ hbr.drew | exact KE.out _ hbr)
        (first
        | (go_at_call_of 37 (a.k); refine (HSA.out _).mono ?_; rintro e wA ⟨rfl, hbA⟩)
        | (go_at_call_of 37 (b.k); refine (HSB.out _).mono ?_; rintro e wB ⟨rfl, hbB⟩)
        | (go_at_call 38; refine (specLess _ _ _).mono ?_; rintro e wC ⟨rfl, rfl⟩))
      clear KE hbr
      have Ba5 := (Ba4.drew.below hbA Ba4.drew.lt).below hbB (Ba4.drew.below hbA Ba4.drew.lt).lt
      have Bb5 := (Bb4.drew.below hbA Bb4.drew.lt).below hbB (Bb4.drew.below hbA Bb4.drew.lt).lt
      have b5 := (b4.drew.trans (hbA.mono b4.size)).trans (hbB.mono (Nat.le_trans b4.size hbA.size))
      clear hbA hbB Ba4 Bb4 b4 p0 p1 p2 p3 p4 q0 q1 q2 q3 q4
      obtain ⟨p0, p1, p2, p3, p4⟩ := Ba5.five
      obtain ⟨q0, q1, q2, q3, q4⟩ := Bb5.five
      by_cases hs : sgR a = sgR b
      · have hq : (sgR a != sgR b) = false := by rw [hs]; simp
        have HS := Lib.hid hs
        clear hs
        go_wp2_with fail
        refine (HSA.out wB).mono ?_
        rintro e w6 ⟨rfl, hb6⟩
        have Ba6 := Ba5.below hb6 Ba5.lt
        have Bb6 := Bb5.below hb6 Bb5.lt
        have b6 := b5.trans (hb6.mono b5.size)
        clear p0 p1 p2 p3 p4 q0 q1 q2 q3 q4 hb6 Ba5 Bb5 b5
        obtain ⟨p0, p1, p2, p3, p4⟩ := Ba6.five
        obtain ⟨q0, q1, q2, q3, q4⟩ := Bb6.five
        by_cases hneg : sgR a < 0
        · have hm : sgR a = -1 := by rcases sgR_cases a with h | h | h <;> omega
          have HR := Lib.hid (cnR_neg HN.out hm (HS.out ▸ hm))
          have hbn : ¬ b.n = 0 := by have := HS.out; rcases sgR_cases b with h | h | h <;> omega
          have HX := Lib.hid (show (if b.n = 0 then 0 else sizeR b a) = cnR a b by rw [if_neg hbn, HR.out])
          rw [hm]
          clear hneg hbn
          have HM := Lib.hid hm
          clear hm
          have cS := fun W => specSize b a B A cb ca W HFb.out HFa.out HEb.out HEa.out (by left; have h1 := HM.out; have h2 := HS.out; rcases sgR_cases a with h | h | h <;> rcases sgR_cases b with h' | h' | h' <;> omega)
          rw [HX.out] at cS
          unfold V.agg at cS
          have HCS := Lib.hid cS
          clear cS
          go_wp2_with fail
          refine (HCS.out w6).mono ?_
          rintro e w7 ⟨rfl, hb7⟩
          go_wp2_with fail
          go_ret
          exact ⟨rfl, b6.trans (hb7.mono b6.size)⟩
        · have HX := Lib.hid (show (if a.n = 0 then 0 else sizeR a b) = cnR a b by
            by_cases h0 : a.n = 0
            · have h1 : sgR a = 0 := by rcases sgR_cases a with h | h | h <;> omega
              rw [if_pos h0, cnR_sign HN.out (.inr h1), ← HS.out, h1]
              rfl
            · have h1 : sgR a = 1 := by rcases sgR_cases a with h | h | h <;> omega
              rw [if_neg h0, cnR_pos HN.out h1 (HS.out ▸ h1)])
          have hq2 : decide (sgR a < 0) = false := decide_eq_false hneg
          have HNG := Lib.hid hneg
          clear hneg
          have cS := fun W => specSize a b A B ca cb W HFa.out HFb.out HEa.out HEb.out (by have h1 := HNG.out; have h2 := HS.out; rcases sgR_cases a with h | h | h <;> rcases sgR_cases b with h' | h' | h' <;> omega)
          rw [HX.out] at cS
          unfold V.agg at cS
          have HCS := Lib.hid cS
          clear cS
          go_wp2_with fail
          refine (HCS.out w6).mono ?_
          rintro e w7 ⟨rfl, hb7⟩
          go_wp2_with fail
          go_ret
          exact ⟨rfl, b6.trans (hb7.mono b6.size)⟩
      · have hq : (sgR a != sgR b) = true := by simpa using hs
        have HR := Lib.hid (cnR_sign HN.out (.inl hs))
        clear hs
        go_wp2_with fail
        have Ba4 := Ba5
        have Bb4 := Bb5
        have b4 := b5
        clear Ba5 Bb5 b5
        have KE : Hid (∀ w' : World, Below wB.heap.size wB w' → w'.cell? ⟨w.heap.size, 0, none⟩ = some (.int .i64 a.k) ∧ w'.cell? ⟨w.heap.size, 1, none⟩ = some (.int .i64 a.n) ∧ w'.cell? ⟨w.heap.size, 2, none⟩ = some (.int .i64 a.e) ∧ w'.cell? ⟨w.heap.size, 3, none⟩ = some (.string a.s) ∧ w'.cell? ⟨w.heap.size, 4, none⟩ = some (.slice A a.kids.length ca) ∧ w'.cell? ⟨w.heap.size + 1, 0, none⟩ = some (.int .i64 b.k) ∧ w'.cell? ⟨w.heap.size + 1, 1, none⟩ = some (.int .i64 b.n) ∧ w'.cell? ⟨w.heap.size + 1, 2, none⟩ = some (.int .i64 b.e) ∧ w'.cell? ⟨w.heap.size + 1, 3, none⟩ = some (.string b.s) ∧ w'.cell? ⟨w.heap.size + 1, 4, none⟩ = some (.slice B b.kids.length cb)) := Lib.hid (fun w' hb => by
          have X := (Ba4.below hb Ba4.lt).five
          have Y := (Bb4.below hb Bb4.lt).five
          exact ⟨X.1, X.2.1, X.2.2.1, X.2.2.2.1, X.2.2.2.2, Y.1, Y.2.1, Y.2.2.1, Y.2.2.2.1, Y.2.2.2.2⟩)
        have hbr : Below wB.heap.size wB wB := Below.refl _ _
        go_region_held3 (fun w' => w'.cell? ⟨w.heap.size, 0, none⟩ = some (.int .i64 a.k) ∧ w'.cell? ⟨w.heap.size, 1, none⟩ = some (.int .i64 a.n) ∧ w'.cell? ⟨w.heap.size, 2, none⟩ = some (.int .i64 a.e) ∧ w'.cell? ⟨w.heap.size, 3, none⟩ = some (.string a.s) ∧ w'.cell? ⟨w.heap.size, 4, none⟩ = some (.slice A a.kids.length ca) ∧ w'.cell? ⟨w.heap.size + 1, 0, none⟩ = some (.int .i64 b.k) ∧ w'.cell? ⟨w.heap.size + 1, 1, none⟩ = some (.int .i64 b.n) ∧ w'.cell? ⟨w.heap.size + 1, 2, none⟩ = some (.int .i64 b.e) ∧ w'.cell? ⟨w.heap.size + 1, 3, none⟩ = some (.string b.s) ∧ w'.cell? ⟨w.heap.size + 1, 4, none⟩ = some (.slice B b.kids.length cb))
          (first | exact KE.out _ ((hbr.drew.trans hbD).trans (hbE.mono hbD.size)) | exact KE.out _ (hbr.drew.trans hbD) | exact KE.out _ hbr.drew | exact KE.out _ hbr)
          (first
          | (go_at_call_of 37 (a.k); refine (HSA.out _).mono ?_; rintro e wD ⟨rfl, hbD⟩)
          | (go_at_call_of 37 (b.k); refine (HSB.out _).mono ?_; rintro e wE ⟨rfl, hbE⟩)
          | (go_at_call 38; refine (specLess _ _ _).mono ?_; rintro e wC ⟨rfl, rfl⟩))
        clear KE hbr
        have Ba5 := (Ba4.drew.below hbD Ba4.drew.lt).below hbE (Ba4.drew.below hbD Ba4.drew.lt).lt
        have Bb5 := (Bb4.drew.below hbD Bb4.drew.lt).below hbE (Bb4.drew.below hbD Bb4.drew.lt).lt
        have b5 := (b4.drew.trans (hbD.mono b4.size)).trans (hbE.mono (Nat.le_trans b4.size hbD.size))
        clear hbD hbE Ba4 Bb4 b4 p0 p1 p2 p3 p4 q0 q1 q2 q3 q4
        go_wp2_with fail
        go_ret
        exact ⟨ret_num HR.out.symm, b5⟩
    · rw [show decide (numOk b) = false from decide_eq_false hnb]
      have HR := Lib.hid (HNO.out (fun h => hnb h.2))
      clear hnb
      go_wp2_with fail
      go_ret
      exact ⟨ret_num HR.out.symm, b4⟩
  · rw [show decide (numOk a) = false from decide_eq_false hna]
    have HR := Lib.hid (HNO.out (fun h => hna h.1))
    clear hna
    go_wp2_with fail
    go_ret
    exact ⟨ret_num HR.out.symm, b3⟩
end Go.Proofs.YtbflkcldjjpioaaDoor

/-
  NumText of the program.
-/
namespace Go.Proofs.YtbflkcldjjpioaaDoor
open Go.RowKit
set_option linter.unusedVariables false
set_option linter.unusedSimpArgs false
set_option maxRecDepth 100000

theorem repeat_zeros : ∀ c : Nat, Lib.repeatL [48] c = List.replicate c 48
  | 0 => rfl
  | c + 1 => by
    have h := Lib.repeatL_add [48] 1 c
    rw [Lib.repeatL_one, repeat_zeros c] at h
    rw [Nat.add_comm c 1, h, Nat.add_comm 1 c, List.replicate_succ]; rfl
theorem cut_minus (n : Int) : (⟨(Lib.trimPrefix (str (Lib.itoa n)).data.toList (⟨#[45]⟩ : ByteArray).data.toList).toArray⟩ : ByteArray) = str (Lib.decDigits n.natAbs) ∧ Lib.hasPrefix (str (Lib.itoa n)).data.toList (⟨#[45]⟩ : ByteArray).data.toList = decide (n < 0) := by
  by_cases h : n < 0
  · obtain ⟨u, rfl⟩ : ∃ u : Nat, n = -(u : Int) := ⟨n.natAbs, by omega⟩
    rw [itoa_neg u (by omega), Int.natAbs_neg, Int.natAbs_natCast, decide_eq_true h]
    simp [str, Lib.trimPrefix, Lib.hasPrefix, List.isPrefixOf]
  · obtain ⟨u, rfl⟩ := Int.eq_ofNat_of_zero_le (show 0 ≤ n by omega)
    rw [itoa_pos, Int.natAbs_natCast, decide_eq_false h]
    have h1 := dec_digit u
    have h2 := dec_ne u
    cases hc : Lib.decDigits u with
    | nil => exact absurd hc h2
    | cons b l =>
      rw [hc] at h1
      have hb := h1 b (List.mem_cons_self ..)
      have hne : ((45 : UInt8) == b) = false := by
        apply beq_eq_false_iff_ne.2
        intro h
        rw [← h] at hb
        simp at hb
      simp [str, Lib.trimPrefix, Lib.hasPrefix, List.isPrefixOf, hne]

set_option maxHeartbeats 2000000 in
theorem implDigits (n : Int) (w : World) (h : -9223372036854775808 ≤ n ∧ n ≤ 9223372036854775807) (hP : Pow10 w) :
    Calls Tryd.prog 62 #[.int .i64 n] w fun e w' => e = .returned (.tuple #[.string (str (Lib.decDigits n.natAbs)), .bool (decide (n < 0))]) ∧ Below w.heap.size w w' := by
  have HD := Lib.hid (implDecText n w h hP)
  have HC := Lib.hid (cut_minus n)
  clear hP
  go_enter Tryd.func62, Tryd.ntmps62
  go_wp2_with fail
  refine HD.out.mono ?_
  rintro e w1 ⟨rfl, hb1⟩
  have HT := Lib.hid (Tryd.strings_CutPrefix (str (Lib.itoa n)) ⟨#[45]⟩ w1)
  rw [HC.out.1, HC.out.2] at HT
  clear HC HD
  go_wp2_with fail
  refine HT.out.mono ?_
  rintro e w2 ⟨rfl, rfl⟩
  go_wp2_with fail
  go_ret2
  exact ⟨rfl, hb1⟩

set_option maxHeartbeats 8000000 in
theorem implNumTxt (v : V) (A : Option Addr) (cap : Nat) (w : World) (hf : v.fits) (hnum : numOk v) (hP : Pow10 w) :
    Calls Tryd.prog 36 #[v.agg A cap] w fun e w' => e = .returned (.string (numTextB v)) ∧ Below w.heap.size w w' := by
  have HP := Lib.hid hP
  have hf3 := (V.fits_eq v).1 hf
  have hn := hf3.2.2.2.2.1
  have he := hf3.2.2.2.2.2
  unfold inI at hn he
  clear hf hf3 hP
  obtain ⟨w0, hw0⟩ : ∃ w0, w0 = w.alloc (.cells #[.int .i64 v.k, .int .i64 v.n, .int .i64 v.e, .string v.s, .slice A v.kids.length cap] 34) := ⟨_, rfl⟩
  have b0 : Below w.heap.size w w0 := by rw [hw0]; exact (Below.refl _ w).alloc (Nat.le_refl _) _
  have B0 : Blk w0 w.heap.size 34 #[.int .i64 v.k, .int .i64 v.n, .int .i64 v.e, .string v.s, .slice A v.kids.length cap] := by rw [hw0]; exact Blk.new w _ _
  have P0 := HP.out.below b0 (Nat.le_refl _)
  have lv := B0.lt
  have hs0 := b0.size
  have HB0 := Lib.hid b0
  have HV0 := Lib.hid B0
  have HP0 := Lib.hid P0
  clear b0 P0 HP
  obtain ⟨p0, p1, p2, p3, p4⟩ := B0.five
  clear B0
  have HU : Hid (numTextB v = if v.k = 3 then str (Lib.itoa v.n) else if v.k = 4 then if 0 < v.e then str (Lib.itoa v.n) ++ ((⟨#[101]⟩ : ByteArray) ++ str (Lib.itoa v.e)) else if v.n < 0 then (⟨#[45]⟩ : ByteArray) ++ cutT (str (padL (Lib.decDigits v.n.natAbs) (-v.e).toNat)) v.e else cutT (str (padL (Lib.decDigits v.n.natAbs) (-v.e).toNat)) v.e else ⟨#[]⟩) := Lib.hid (by rw [numTextB, if_pos hnum.2])
  unfold V.agg
  by_cases h3 : v.k = 3
  · have q3 : (v.k == 3) = true := by rw [h3]; rfl
    have HR := Lib.hid (HU.out.trans (if_pos h3))
    clear hnum h3
    go_enter Tryd.func36, Tryd.ntmps36
    go_wp2_with fail
    rw [← hw0]
    refine (implDecText v.n w0 hn HP0.out).mono ?_
    rintro e w2 ⟨rfl, hb2⟩
    go_wp2_with fail
    go_ret
    exact ⟨congrArg (fun x => Ending.returned (.string x)) HR.out.symm, HB0.out.trans (hb2.mono hs0)⟩
  have h4 : v.k = 4 := hnum.1.resolve_left h3
  have q3 : (v.k == 3) = false := by simpa using h3
  have HR := Lib.hid (HU.out.trans ((if_neg h3).trans (if_pos h4)))
  have hdec := (okV_leaf hnum).2.2.2 h4
  have hlow : -20 ≤ v.e := hdec.1
  have hnr : -999999999999999999 ≤ v.n ∧ v.n ≤ 999999999999999999 := ⟨hdec.2.2.2.1, hdec.2.2.2.2.1⟩
  clear hnum h3 h4 hdec
  by_cases hp : 0 < v.e
  · have qp : decide (0 < v.e) = true := decide_eq_true hp
    have HR2 := Lib.hid (HR.out.trans (if_pos hp))
    have hs1 := itoa_size hn
    have hs2 := itoa_size he
    obtain ⟨sN, hsN⟩ : ∃ sN, str (Lib.itoa v.n) = sN := ⟨_, rfl⟩
    obtain ⟨sE, hsE⟩ : ∃ sE, str (Lib.itoa v.e) = sE := ⟨_, rfl⟩
    rw [hsN] at HR2 hs1
    rw [hsE] at HR2 hs2
    have HSN := Lib.hid hsN
    have HSE := Lib.hid hsE
    clear hp HU HR hsN hsE
    go_enter Tryd.func36, Tryd.ntmps36
    go_wp2_with fail
    rw [← hw0]
    clear hw0
    have KE : Hid (∀ w' : World, Below w0.heap.size w0 w' → w'.cell? ⟨w.heap.size, 1, none⟩ = some (.int .i64 v.n) ∧ w'.cell? ⟨w.heap.size, 2, none⟩ = some (.int .i64 v.e)) := Lib.hid (fun w' hb => ⟨(HV0.out.below hb lv).cell 1, (HV0.out.below hb lv).cell 2⟩)
    have hbr : Below w0.heap.size w0 w0 := Below.refl _ _
    clear p0 p3 p4
    have hadd1 : ∀ W : World, (Op.stringOp .add sN (⟨#[101]⟩ : ByteArray)).run Tryd.prog W = .ok (.string (sN ++ (⟨#[101]⟩ : ByteArray))) W := fun W => run_string_add_sum _ _ _ (by show sN.size + 1 ≤ _; omega)
    have hadd2 : ∀ W : World, (Op.stringOp .add (sN ++ (⟨#[101]⟩ : ByteArray)) sE).run Tryd.prog W = .ok (.string (sN ++ ((⟨#[101]⟩ : ByteArray) ++ sE))) W := fun W => by
      rw [← assoc3]
      exact run_string_add_sum _ _ _ (by rw [ByteArray.size_append]; show sN.size + 1 + sE.size ≤ _; omega)
    go_region_held3 (fun w' => w'.cell? ⟨w.heap.size, 1, none⟩ = some (.int .i64 v.n) ∧ w'.cell? ⟨w.heap.size, 2, none⟩ = some (.int .i64 v.e)) (first | exact KE.out _ hbx2 | exact KE.out _ hbx1 | exact KE.out _ hbr.drew | exact KE.out _ hbr)
      (first
      | (have hgate := hbx1; clear hgate; go_at_call 10; refine (implDecText v.e w1 he (HP0.out.below hbx1 (Nat.le_refl _))).mono ?_; rintro e w2 ⟨rfl, hbx'⟩; have hbx2 := hbx1.trans (hbx'.mono hbx1.size); rw [HSE.out])
      | (go_at_call 10; refine (implDecText v.n w0.drew hn (HP0.out.below hbr.drew (Nat.le_refl _))).mono ?_; rintro e w1 ⟨rfl, hbx'⟩; have hbx1 : Below w0.heap.size w0 w1 := hbr.drew.trans hbx'; rw [HSN.out]))
    go_wp2_with fail
    go_ret
    refine ⟨?_, HB0.out.trans (hbx2.mono hs0)⟩
    rw [HR2.out]
    first | rfl | (rw [← assoc3]; rfl)
  · have qp : decide (0 < v.e) = false := decide_eq_false hp
    have HR2 := Lib.hid (HR.out.trans (if_neg hp))
    have HDG := Lib.hid (implDigits v.n w0 hn HP0.out)
    obtain ⟨D, hD⟩ : ∃ D, Lib.decDigits v.n.natAbs = D := ⟨_, rfl⟩
    have hDl : D.length ≤ 19 := by rw [← hD]; exact dec_len _ (by omega)
    obtain ⟨K, hK⟩ : ∃ K : Nat, (-v.e).toNat = K := ⟨_, rfl⟩
    have hK1 : v.e ≤ -(K : Int) := by omega
    have hK2 : -(K : Int) ≤ v.e := by omega
    have hK20 : K ≤ 20 := by omega
    have hPl : K < (str (padL D K)).size := by rw [str_size]; exact padL_len D K
    have hPm : (str (padL D K)).size ≤ K + 1 + D.length := by rw [str_size]; exact padL_le D K
    have HPE : Hid (∀ c : Nat, (c : Int) = 1 - v.e - (D.length : Int) → (⟨(Lib.repeatL (⟨#[48]⟩ : ByteArray).data.toList c).toArray⟩ : ByteArray) ++ str D = str (padL D K)) := Lib.hid (fun c hc => by
      rw [show (⟨#[48]⟩ : ByteArray).data.toList = [48] from rfl, repeat_zeros, padL, show K + 1 - D.length = c by omega]
      apply ByteArray.ext; apply Array.ext'; simp [str])
    have HPZ : Hid (1 - v.e - (D.length : Int) ≤ 0 → str D = str (padL D K)) := Lib.hid (fun hc => by
      rw [padL, show K + 1 - D.length = 0 by omega]; rfl)
    have hsD : (str D).size = D.length := str_size D
    rw [hD, hK] at HR2
    rw [hD] at HDG
    obtain ⟨P, hPP⟩ : ∃ P, str (padL D K) = P := ⟨_, rfl⟩
    rw [hPP] at HR2 hPl hPm HPE HPZ
    obtain ⟨sD, hsDD⟩ : ∃ sD, str D = sD := ⟨_, rfl⟩
    rw [hsDD] at HPE HPZ hsD HDG
    clear hD hK hPP hsDD HU HR
    rcases (show (decide (v.n < 0) = true ∧ numTextB v = (⟨#[45]⟩ : ByteArray) ++ cutT P v.e) ∨ (decide (v.n < 0) = false ∧ numTextB v = cutT P v.e) by
      by_cases hneg : v.n < 0
      · exact .inl ⟨decide_eq_true hneg, HR2.out.trans (if_pos hneg)⟩
      · exact .inr ⟨decide_eq_false hneg, HR2.out.trans (if_neg hneg)⟩) with ⟨qn, hR⟩ | ⟨qn, hR⟩
    all_goals
      have HR3 := Lib.hid hR
      clear hR
      by_cases hz : 0 < 1 - v.e - (D.length : Int)
      · have qz : decide (0 < 1 - v.e - (D.length : Int)) = true := decide_eq_true hz
        obtain ⟨c, hc⟩ : ∃ c : Nat, (c : Int) = 1 - v.e - (D.length : Int) := ⟨(1 - v.e - (D.length : Int)).toNat, by omega⟩
        have hc2 : c ≤ 40 := by omega
        have HJ := Lib.hid (HPE.out c hc)
        have HCC := Lib.hid hc
        have hrl : (⟨(Lib.repeatL (⟨#[48]⟩ : ByteArray).data.toList c).toArray⟩ : ByteArray).size ≤ 40 := by
          show (Lib.repeatL [48] c).toArray.size ≤ 40
          rw [repeat_zeros]; simpa using hc2
        clear hc HPE HPZ
        go_enter Tryd.func36, Tryd.ntmps36
        go_wp2_with fail
        rw [← hw0]
        refine HDG.out.mono ?_
        rintro e w1 ⟨rfl, hb1⟩
        clear p0 p1 p2 p3 p4
        obtain ⟨p0, p1, p2, p3, p4⟩ := (HV0.out.below hb1 lv).five
        have lv1 := (HV0.out.below hb1 lv).lt
        go_wp2_with fail
        rw [← HCC.out]
        refine (Tryd.strings_Repeat ⟨#[48]⟩ c w1 (by omega) (by show 1 * c ≤ _; omega)).mono ?_
        rintro e w2 ⟨rfl, hb2⟩
        have hb12 := hb1.trans (hb2.mono hb1.size)
        clear p0 p1 p2 p3 p4
        obtain ⟨p0, p1, p2, p3, p4⟩ := (HV0.out.below hb12 lv).five
        obtain ⟨sR, hsR⟩ : ∃ sR, (⟨(Lib.repeatL (⟨#[48]⟩ : ByteArray).data.toList c).toArray⟩ : ByteArray) = sR := ⟨_, rfl⟩
        rw [hsR] at HJ hrl ⊢
        have hPs := congrArg ByteArray.size HJ.out
        rw [ByteArray.size_append] at hPs
        have HPS : Hid ((P.size : Int) = (sR.size : Int) + (D.length : Int)) := Lib.hid (by omega)
        have hPs1 : P.size ≤ sR.size + D.length := by omega
        have hPs2 : sR.size + D.length ≤ P.size := by omega
        clear hsR hPs
        go_wp2_with fail
        rw [HJ.out]
        go_wp2_with fail
        go_quiet (fail)
        go_wp2_with fail
        go_ret
        refine ⟨?_, below_drewN (HB0.out.trans (hb12.mono hs0)) _⟩
        rw [HR3.out]
        rw [cutT, HPS.out]
        first | rfl | exact congrArg (fun x => Ending.returned (.string ((⟨#[45]⟩ : ByteArray) ++ x))) (assoc3 _ _ _) | (rw [← assoc3]; rfl)
      · have qz : decide (0 < 1 - v.e - (D.length : Int)) = false := decide_eq_false hz
        have HJ := Lib.hid (HPZ.out (by omega))
        clear HPE HPZ
        go_enter Tryd.func36, Tryd.ntmps36
        go_wp2_with fail
        rw [← hw0]
        refine HDG.out.mono ?_
        rintro e w1 ⟨rfl, hb1⟩
        clear p0 p1 p2 p3 p4
        obtain ⟨p0, p1, p2, p3, p4⟩ := (HV0.out.below hb1 lv).five
        have lv1 := (HV0.out.below hb1 lv).lt
        have hb12 := hb1
        have hsm : sD.size ≤ 100 := by omega
        have hPs := congrArg ByteArray.size HJ.out
        have HPS : Hid ((P.size : Int) = (D.length : Int)) := Lib.hid (by omega)
        have hPs1 : P.size ≤ D.length := by omega
        have hPs2 : D.length ≤ P.size := by omega
        clear hPs
        go_wp2_with fail
        rw [HJ.out]
        go_wp2_with fail
        go_quiet (fail)
        go_wp2_with fail
        go_ret
        refine ⟨?_, below_drewN (HB0.out.trans (hb12.mono hs0)) _⟩
        rw [HR3.out]
        rw [cutT, HPS.out]
        first | rfl | exact congrArg (fun x => Ending.returned (.string ((⟨#[45]⟩ : ByteArray) ++ x))) (assoc3 _ _ _) | (rw [← assoc3]; rfl)

set_option maxHeartbeats 1000000 in
theorem implNumText (v : V) (A : Option Addr) (cap : Nat) (w : World) (hf : v.fits) (hw : v.weight ≤ 1048576) (hP : Pow10 w) (hT : Tabs w) (hat : Vs.at_ w 0 w.heap.size v.kids A) :
    Calls Tryd.prog 19 #[v.agg A cap] w fun e w' => e = .returned (.string (numTextB v)) ∧ Below w.heap.size w w' := by
  have HA := Lib.hid hat
  have HF := Lib.hid hf
  have HT := Lib.hid hT
  have HP := Lib.hid hP
  clear hat hf hT hP
  unfold V.agg
  go_enter Tryd.func19, Tryd.ntmps19
  go_wp2_with fail
  have b0 : Below w.heap.size w (w.alloc (.cells #[.int .i64 v.k, .int .i64 v.n, .int .i64 v.e, .string v.s, .slice A v.kids.length cap] 34)) := (Below.refl _ w).alloc (Nat.le_refl _) _
  have B0 := Blk.new w 34 #[.int .i64 v.k, .int .i64 v.n, .int .i64 v.e, .string v.s, .slice A v.kids.length cap]
  refine (implIs v A cap _ hw (HT.out.below b0) (Vs.at_more (Nat.le_refl _) b0.size _ _ (Vs.at_below HA.out b0 (Nat.le_refl _)))).mono ?_
  rintro e w1 ⟨rfl, hb1⟩
  have B1 := B0.below hb1 (by simp)
  obtain ⟨p0, p1, p2, p3, p4⟩ := B1.five
  have b1 : Below w.heap.size w w1 := b0.trans (hb1.mono b0.size)
  clear hb1 b0 B0
  by_cases hv : numOk v
  · rw [show decide (numOk v) = true from decide_eq_true hv]
    have HV := Lib.hid hv
    clear hv
    go_wp2_with fail
    refine (implNumTxt v A cap w1 HF.out HV.out (HP.out.below b1 (Nat.le_refl _))).mono ?_
    rintro e w2 ⟨rfl, hb2⟩
    go_wp2_with fail
    go_ret
    exact ⟨rfl, b1.trans (hb2.mono b1.size)⟩
  · rw [show decide (numOk v) = false from decide_eq_false hv]
    have HN : Hid (numTextB v = ⟨#[]⟩) := Lib.hid (by
      unfold numTextB
      by_cases h : okV v
      · have h3 : ¬ v.k = 3 := fun h1 => hv ⟨.inl h1, h⟩
        have h4 : ¬ v.k = 4 := fun h1 => hv ⟨.inr h1, h⟩
        rw [if_pos h, if_neg h3, if_neg h4]
      · rw [if_neg h])
    clear hv
    go_wp2_with fail
    go_ret
    exact ⟨congrArg (fun x => Ending.returned (.string x)) HN.out.symm, b1⟩
end Go.Proofs.YtbflkcldjjpioaaDoor

/-
  The library's order of two numbers and of two texts, and its first that is not 0.
-/
namespace Go.Proofs.YtbflkcldjjpioaaDoor
open Go.RowKit
set_option linter.unusedVariables false
set_option maxRecDepth 100000
set_option linter.unusedSimpArgs false

theorem isNaN_int (a : Int) (w : World) : Calls Tryd.prog 66 #[.int .i64 a] w fun e w' => e = .returned (.bool false) ∧ w' = w := by
  go_enter Tryd.func66, Tryd.ntmps66
  go_wp2_with fail
  go_ret
  exact ⟨ret_bool (by simp), rfl⟩
theorem cmpInt (a b : Int) (w : World) : Calls Tryd.prog 40 #[.int .i64 a, .int .i64 b] w fun e w' => e = .returned (.int .i64 (lessI a b)) ∧ w' = w := by
  by_cases h1 : a < b
  · have H := Lib.hid (lessI_lt h1)
    go_enter Tryd.func40, Tryd.ntmps40
    go_wp2_with fail
    refine (isNaN_int a w).mono ?_
    rintro e w1 ⟨rfl, rfl⟩
    go_wp2_with fail
    refine (isNaN_int b w1).mono ?_
    rintro e w1 ⟨rfl, rfl⟩
    go_wp2_with fail
    go_ret
    exact ⟨ret_num (by rw [H.out]), rfl⟩
  · by_cases h2 : b < a
    · have H := Lib.hid (lessI_gt h2)
      go_enter Tryd.func40, Tryd.ntmps40
      go_wp2_with fail
      refine (isNaN_int a w).mono ?_
      rintro e w1 ⟨rfl, rfl⟩
      go_wp2_with fail
      refine (isNaN_int b w1).mono ?_
      rintro e w1 ⟨rfl, rfl⟩
      go_wp2_with fail
      go_ret
      exact ⟨ret_num (by rw [H.out]), rfl⟩
    · obtain rfl : a = b := by omega
      have H := Lib.hid (lessI_eq a)
      go_enter Tryd.func40, Tryd.ntmps40
      go_wp2_with fail
      refine (isNaN_int a w).mono ?_
      rintro e w1 ⟨rfl, rfl⟩
      go_wp2_with fail
      refine (isNaN_int a w1).mono ?_
      rintro e w1 ⟨rfl, rfl⟩
      go_wp2_with fail
      go_ret
      exact ⟨ret_num (by rw [H.out]), rfl⟩

theorem isNaN_text (a : ByteArray) (w : World) : Calls Tryd.prog 101 #[.string a] w fun e w' => e = .returned (.bool false) ∧ w' = w := by
  go_enter Tryd.func101, Tryd.ntmps101
  go_wp2_with fail
  go_ret
  exact ⟨ret_bool (by simp), rfl⟩
theorem cmpText (a b : ByteArray) (w : World) : Calls Tryd.prog 68 #[.string a, .string b] w fun e w' => e = .returned (.int .i64 (lessT a b)) ∧ w' = w := by
  by_cases h1 : Op.bytesLess a.toList b.toList = true
  · have H := Lib.hid (show lessT a b = -1 by unfold lessT; rw [if_pos h1])
    go_enter Tryd.func68, Tryd.ntmps68
    go_wp2_with fail
    refine (isNaN_text a w).mono ?_
    rintro e w1 ⟨rfl, rfl⟩
    go_wp2_with fail
    refine (isNaN_text b w1).mono ?_
    rintro e w1 ⟨rfl, rfl⟩
    go_wp2_with fail
    go_ret
    exact ⟨ret_num (by rw [H.out]), rfl⟩
  · have h1' : Op.bytesLess a.toList b.toList = false := by simpa using h1
    by_cases h2 : (a.toList == b.toList) = true
    · have H := Lib.hid (show lessT a b = 0 by unfold lessT; rw [if_neg h1, if_pos h2])
      clear h1
      go_enter Tryd.func68, Tryd.ntmps68
      go_wp2_with fail
      refine (isNaN_text a w).mono ?_
      rintro e w1 ⟨rfl, rfl⟩
      go_wp2_with fail
      refine (isNaN_text b w1).mono ?_
      rintro e w1 ⟨rfl, rfl⟩
      go_wp2_with fail
      go_ret
      exact ⟨ret_num (by rw [H.out]), rfl⟩
    · have H := Lib.hid (show lessT a b = 1 by unfold lessT; rw [if_neg h1, if_neg h2])
      have h2' : (a.toList == b.toList) = false := by simpa using h2
      clear h1 h2
      go_enter Tryd.func68, Tryd.ntmps68
      go_wp2_with fail
      refine (isNaN_text a w).mono ?_
      rintro e w1 ⟨rfl, rfl⟩
      go_wp2_with fail
      refine (isNaN_text b w1).mono ?_
      rintro e w1 ⟨rfl, rfl⟩
      go_wp2_with fail
      go_ret
      exact ⟨ret_num (by rw [H.out]), rfl⟩

set_option maxHeartbeats 1000000 in
/-- cmp.Or: the first that is not 0 of n numbers that lie in block g. -/
theorem cmpOr (f : Nat → Int) (n c g : Nat) (w : World) (hn : n ≤ 1000) (hg : ∀ i, i < n → w.cell? ⟨g, i, none⟩ = some (.int .i64 (f i))) :
    Calls Tryd.prog 67 #[.slice (some ⟨g, 0, none⟩) n c] w fun e w' => e = .returned (.int .i64 (orN f n)) ∧ w' = w := by
  have HG := Lib.hid hg
  have HF := Lib.hid (orN_first f n)
  have HZ := Lib.hid (orN_zero f n)
  clear hg
  go_enter Tryd.func67, Tryd.ntmps67
  go_wp2_with fail
  go_loopw [8] (fun i wr => ∃ j : Nat, j ≤ n ∧ i = .int .i64 j ∧ wr = w ∧ ∀ k, k < j → f k = 0) (fun i _ => n - (intOf i).toNat)
  case atStart => exact ⟨0, Nat.zero_le _, rfl, rfl, fun k hk => by omega⟩
  case round =>
    obtain ⟨j, hj, rfl, rfl, hz⟩ := hrel
    have HH := Lib.hid hz
    clear hz
    by_cases hlt : j < n
    · have c0 := HG.out j hlt
      by_cases h0 : f j = 0
      · have h0' := h0
        have H0 := Lib.hid h0'
        clear h0'
        rw [h0] at c0
        clear h0
        go_wp2_with fail
        go_roundw
        case rel => exact ⟨j + 1, by omega, by go_num, by simp, fun k hk => by
          by_cases hk2 : k = j
          · subst hk2; exact H0.out
          · exact HH.out k (by omega)⟩
        case measure => simp [intOf]; omega
      · go_wp2_with fail
        go_ret
        exact ⟨ret_num (by rw [HF.out j HH.out hlt h0]), rfl⟩
    · obtain rfl : j = n := by omega
      go_wp2_with fail
      go_ret
      exact ⟨ret_num (by rw [HZ.out HH.out]), rfl⟩
end Go.Proofs.YtbflkcldjjpioaaDoor

/-
  CompareNum of the program.
-/
namespace Go.Proofs.YtbflkcldjjpioaaDoor
open Go.RowKit
set_option linter.unusedVariables false
set_option linter.unusedSimpArgs false
set_option maxRecDepth 100000

/-- The two orders of two sizes. -/
def szAt (a b : V) : Nat → Int
  | 0 => lessI a.mag b.mag
  | _ => lessT (str (cutZ a.digs)) (str (cutZ b.digs))
theorem szAt_or (a b : V) : orN (szAt a b) 2 = sizeR a b := by
  unfold sizeR
  show (if orN (szAt a b) 1 = 0 then szAt a b 1 else orN (szAt a b) 1) = _
  have h1 : orN (szAt a b) 1 = lessI a.mag b.mag := by show (if (0 : Int) = 0 then szAt a b 0 else 0) = _; rw [if_pos rfl]; rfl
  rw [h1]
  rfl
theorem sz_cells (w : World) (t : TypeId) (a b : V) (x y : Int) (hx : x = szAt a b 0) (hy : y = szAt a b 1) : ∀ i, i < 2 → (w.alloc (.cells #[.int .i64 x, .int .i64 y] t)).cell? ⟨w.heap.size, i, none⟩ = some (.int .i64 (szAt a b i)) := by
  intro i hi
  have h := cells_new w #[.int .i64 x, .int .i64 y] t i
  rw [Addr.add_lit, Nat.zero_add] at h
  rcases (show i = 0 ∨ i = 1 by omega) with rfl | rfl
  · exact h _ (by simp [hx])
  · exact h _ (by simp [hy])
set_option maxHeartbeats 8000000 in
theorem implSizes (a b : V) (A B : Option Addr) (ca cb : Nat) (w : World) (hfa : a.fits) (hfb : b.fits) (hea : -100 ≤ a.e ∧ a.e ≤ 100) (heb : -100 ≤ b.e ∧ b.e ≤ 100) (hP : Pow10 w) :
    Calls Tryd.prog 41 #[a.agg A ca, b.agg B cb] w fun e w' => e = .returned (.int .i64 (sizeR a b)) ∧ Below w.heap.size w w' := by
  have hna := (fits_n hfa).1
  have hnb := (fits_n hfb).1
  have HDA := Lib.hid (fun W h => implDigits a.n W hna h)
  have HDB := Lib.hid (fun W h => implDigits b.n W hnb h)
  have hda : (str a.digs).size ≤ 19 := by rw [strlen]; exact dec_len _ (by omega)
  have hdb : (str b.digs).size ≤ 19 := by rw [strlen]; exact dec_len _ (by omega)
  have hma : a.mag = (str a.digs).size + a.e := by rw [strlen]; rfl
  have hmb : b.mag = (str b.digs).size + b.e := by rw [strlen]; rfl
  have tA := fun W => Tryd.strings_TrimRight_one (str a.digs) 48 (by decide) W (by omega)
  have tB := fun W => Tryd.strings_TrimRight_one (str b.digs) 48 (by decide) W (by omega)
  rw [show ((⟨(Lib.trimRightB (str a.digs).data.toList 48).toArray⟩ : ByteArray) = str (cutZ a.digs)) by simp [str, cutZ]] at tA
  rw [show ((⟨(Lib.trimRightB (str b.digs).data.toList 48).toArray⟩ : ByteArray) = str (cutZ b.digs)) by simp [str, cutZ]] at tB
  have h0 : lessI (((str a.digs).size : Int) + a.e) (((str b.digs).size : Int) + b.e) = szAt a b 0 := by rw [← hma, ← hmb]; rfl
  have h1 : lessT (str (cutZ a.digs)) (str (cutZ b.digs)) = szAt a b 1 := rfl
  rw [show Lib.decDigits a.n.natAbs = a.digs from rfl] at HDA
  rw [show Lib.decDigits b.n.natAbs = b.digs from rfl] at HDB
  obtain ⟨x, hx⟩ : ∃ x, str a.digs = x := ⟨_, rfl⟩
  obtain ⟨y, hy⟩ : ∃ y, str b.digs = y := ⟨_, rfl⟩
  obtain ⟨x', hx'⟩ : ∃ x, str (cutZ a.digs) = x := ⟨_, rfl⟩
  obtain ⟨y', hy'⟩ : ∃ y, str (cutZ b.digs) = y := ⟨_, rfl⟩
  rw [hx] at HDA hda h0 tA
  rw [hy] at HDB hdb h0 tB
  rw [hx'] at tA h1
  rw [hy'] at tB h1
  have HTA := Lib.hid tA
  have HTB := Lib.hid tB
  have HP := Lib.hid hP
  have H0 := Lib.hid h0
  have H1 := Lib.hid h1
  clear hP hma hmb hx hy hx' hy' tA tB h0 h1 hna hnb hfa hfb
  unfold V.agg
  go_enter Tryd.func41, Tryd.ntmps41
  go_wp2_with fail
  obtain ⟨w2, hw2, Ba, Bb, b1, z2⟩ := two_new w 34 34 #[.int .i64 a.k, .int .i64 a.n, .int .i64 a.e, .string a.s, .slice A a.kids.length ca] #[.int .i64 b.k, .int .i64 b.n, .int .i64 b.e, .string b.s, .slice B b.kids.length cb]
  rw [← hw2]
  clear hw2
  obtain ⟨p0, p1, p2, p3, p4⟩ := Ba.five
  obtain ⟨q0, q1, q2, q3, q4⟩ := Bb.five
  go_wp2_with fail
  refine (HDA.out w2 (HP.out.below b1 (Nat.le_refl _))).mono ?_
  rintro e w3 ⟨rfl, hb3⟩
  have Ba3 := Ba.below hb3 Ba.lt
  have Bb3 := Bb.below hb3 Bb.lt
  have b3 := b1.trans (hb3.mono b1.size)
  clear p0 p1 p2 p3 p4 q0 q1 q2 q3 q4 hb3 Ba Bb b1
  obtain ⟨q0, q1, q2, q3, q4⟩ := Bb3.five
  go_wp2_with fail
  refine (HDB.out w3 (HP.out.below b3 (Nat.le_refl _))).mono ?_
  rintro e w4 ⟨rfl, hb4⟩
  have Ba4 := Ba3.below hb4 Ba3.lt
  have Bb4 := Bb3.below hb4 Bb3.lt
  have b4 := b3.trans (hb4.mono b3.size)
  clear q0 q1 q2 q3 q4 hb4 Ba3 Bb3 b3
  obtain ⟨p0, p1, p2, p3, p4⟩ := Ba4.five
  obtain ⟨q0, q1, q2, q3, q4⟩ := Bb4.five
  go_wp2_with fail
  refine (cmpInt _ _ _).mono ?_
  rintro e w5 ⟨rfl, rfl⟩
  rw [H0.out]
  clear p0 p1 p2 p3 p4 q0 q1 q2 q3 q4
  go_wp2_with fail
  refine (HTA.out _).mono ?_
  rintro e w6 ⟨rfl, rfl⟩
  go_wp2_with fail
  refine (HTB.out _).mono ?_
  rintro e w7 ⟨rfl, rfl⟩
  go_wp2_with fail
  refine (cmpText _ _ _).mono ?_
  rintro e w8 ⟨rfl, rfl⟩
  rw [H1.out]
  go_wp2_with fail
  refine (cmpOr (szAt a b) 2 2 w8.heap.size _ (by omega) (sz_cells _ _ a b _ _ rfl rfl)).mono ?_
  rintro e w9 ⟨rfl, rfl⟩
  rw [szAt_or]
  go_wp2_with fail
  go_ret
  exact ⟨rfl, b4.alloc b4.size _⟩

theorem numOk_e2 {v : V} (h : numOk v) : -100 ≤ v.e ∧ v.e ≤ 100 := by have := numOk_n h; omega
set_option maxHeartbeats 8000000 in
theorem implCompareNum (a b : V) (A B : Option Addr) (ca cb : Nat) (w : World) (hfa : a.fits) (hfb : b.fits) (hwa : a.weight ≤ 1048576) (hwb : b.weight ≤ 1048576) (hP : Pow10 w) (hT : Tabs w) (hat : Vs.at_ w 0 w.heap.size a.kids A) (hbt : Vs.at_ w 0 w.heap.size b.kids B) :
    Calls Tryd.prog 21 #[a.agg A ca, b.agg B cb] w fun e w' => e = .returned (.int .i64 (cnR a b)) ∧ Below w.heap.size w w' := by
  have HA := Lib.hid hat
  have HB := Lib.hid hbt
  have HFa := Lib.hid hfa
  have HFb := Lib.hid hfb
  have HP := Lib.hid hP
  have HT := Lib.hid hT
  have cA := fun W hT h => implIs a A ca W hwa hT h
  have cB := fun W hT h => implIs b B cb W hwb hT h
  have HNO := Lib.hid (cnR_no (a := a) (b := b))
  unfold V.agg at cA cB
  have HCA := Lib.hid cA
  have HCB := Lib.hid cB
  clear hat hbt hfa hfb cA cB hP hT
  unfold V.agg
  go_enter Tryd.func21, Tryd.ntmps21
  go_wp2_with fail
  obtain ⟨w2, hw2, Ba, Bb, b1, z2⟩ := two_new w 34 34 #[.int .i64 a.k, .int .i64 a.n, .int .i64 a.e, .string a.s, .slice A a.kids.length ca] #[.int .i64 b.k, .int .i64 b.n, .int .i64 b.e, .string b.s, .slice B b.kids.length cb]
  rw [← hw2]
  clear hw2
  obtain ⟨p0, p1, p2, p3, p4⟩ := Ba.five
  obtain ⟨q0, q1, q2, q3, q4⟩ := Bb.five
  go_wp2_with fail
  refine (HCA.out w2 (HT.out.below b1) (Vs.at_more (Nat.le_refl _) b1.size _ _ (Vs.at_below HA.out b1 (Nat.le_refl _)))).mono ?_
  rintro e w3 ⟨rfl, hb3⟩
  have Ba3 := Ba.below hb3 Ba.lt
  have Bb3 := Bb.below hb3 Bb.lt
  have b3 := b1.trans (hb3.mono b1.size)
  clear p0 p1 p2 p3 p4 q0 q1 q2 q3 q4 hb3 Ba Bb b1
  obtain ⟨p0, p1, p2, p3, p4⟩ := Ba3.five
  obtain ⟨q0, q1, q2, q3, q4⟩ := Bb3.five
  by_cases hna : numOk a
  · rw [show decide (numOk a) = true from decide_eq_true hna]
    have HNA := Lib.hid hna
    clear hna
    go_wp2_with fail
    refine (HCB.out w3 (HT.out.below b3) (Vs.at_more (Nat.le_refl _) b3.size _ _ (Vs.at_below HB.out b3 (Nat.le_refl _)))).mono ?_
    rintro e w4 ⟨rfl, hb4⟩
    have Ba4 := Ba3.below hb4 Ba3.lt
    have Bb4 := Bb3.below hb4 Bb3.lt
    have b4 := b3.trans (hb4.mono b3.size)
    clear p0 p1 p2 p3 p4 q0 q1 q2 q3 q4 hb4 Ba3 Bb3 b3
    obtain ⟨p0, p1, p2, p3, p4⟩ := Ba4.five
    obtain ⟨q0, q1, q2, q3, q4⟩ := Bb4.five
    by_cases hnb : numOk b
    · rw [show decide (numOk b) = true from decide_eq_true hnb]
      have HN : Hid (numOk a ∧ numOk b) := Lib.hid ⟨HNA.out, hnb⟩
      have HEa := Lib.hid (numOk_e2 HNA.out)
      have HEb := Lib.hid (numOk_e2 hnb)
      clear hnb
      go_wp2_with fail
      go_quiet ((go_at_call 40; exact Calls.quiet_of_same (cmpInt _ _ _)))
      have HB5 : Hid (Below w.heap.size w (w4.drewN nq)) := Lib.hid (below_drewN b4 nq)
      have HVa : Hid (Blk (w4.drewN nq) w.heap.size 34 #[.int .i64 a.k, .int .i64 a.n, .int .i64 a.e, .string a.s, .slice A a.kids.length ca]) := Lib.hid Ba4
      have HVb : Hid (Blk (w4.drewN nq) (w.heap.size + 1) 34 #[.int .i64 b.k, .int .i64 b.n, .int .i64 b.e, .string b.s, .slice B b.kids.length cb]) := Lib.hid Bb4
      obtain ⟨w5, hw5⟩ : ∃ w5, w4.drewN nq = w5 := ⟨_, rfl⟩
      rw [hw5] at HB5 HVa HVb ⊢
      clear hw5 p0 p1 p2 p3 p4 q0 q1 q2 q3 q4 Ba4 Bb4 b4
      rw [show lessI a.n 0 = sgR a from rfl, show lessI b.n 0 = sgR b from rfl]
      obtain ⟨p0, p1, p2, p3, p4⟩ := HVa.out.five
      obtain ⟨q0, q1, q2, q3, q4⟩ := HVb.out.five
      have hzz := HB5.out.size
      by_cases hs : sgR a ≠ sgR b ∨ sgR a = 0
      · have HR := Lib.hid (cnR_sign HN.out hs)
        by_cases h1 : sgR a = sgR b
        · have q : (sgR a != sgR b) = false := by rw [h1]; simp
          have q2 : (sgR a == 0) = true := by rcases hs with h | h; exact absurd h1 h; rw [h]; rfl
          clear hs h1
          go_wp2_with fail
          refine (cmpInt _ _ _).mono ?_
          rintro e w6 ⟨rfl, rfl⟩
          go_wp2_with fail
          go_ret
          exact ⟨ret_num HR.out.symm, HB5.out⟩
        · have q : (sgR a != sgR b) = true := by simpa using h1
          clear hs h1
          go_wp2_with fail
          refine (cmpInt _ _ _).mono ?_
          rintro e w6 ⟨rfl, rfl⟩
          go_wp2_with fail
          go_ret
          exact ⟨ret_num HR.out.symm, HB5.out⟩
      · have hsr := sizeR_range a b
        have cS := fun W h => implSizes a b A B ca cb W HFa.out HFb.out HEa.out HEb.out h
        unfold V.agg at cS
        have q : (sgR a != sgR b) = false := by
          have : sgR a = sgR b := Classical.byContradiction fun h => hs (.inl h)
          rw [this]; simp
        have q2 : (sgR a == 0) = false := by
          have : sgR a ≠ 0 := fun h => hs (.inr h)
          simpa using this
        rcases (show (sgR a = 1 ∧ sgR b = 1) ∨ (sgR a = -1 ∧ sgR b = -1) by
          have h1 : sgR a = sgR b := Classical.byContradiction fun h => hs (.inl h)
          have h2 : sgR a ≠ 0 := fun h => hs (.inr h)
          rcases sgR_cases a with h | h | h <;> omega) with ⟨ha, hb⟩ | ⟨ha, hb⟩
        · have HR := Lib.hid (cnR_pos HN.out ha hb)
          obtain ⟨r, hr⟩ : ∃ r, sizeR a b = r := ⟨_, rfl⟩
          rw [hr] at HR hsr cS
          have HCS := Lib.hid cS
          rw [ha, hb]
          clear hs hr cS q q2 ha hb
          go_wp2_with fail
          refine (HCS.out w5 (HP.out.below HB5.out (Nat.le_refl _))).mono ?_
          rintro e w6 ⟨rfl, hb6⟩
          have hw1 : IntKind.i64.wrap r = r := by rw [IntKind.wrap_i64]; omega
          go_wp2_with fail
          go_ret
          exact ⟨ret_num HR.out.symm, HB5.out.trans (hb6.mono hzz)⟩
        · have HR := Lib.hid ((cnR_neg HN.out ha hb).trans (sizeR_swap a b))
          obtain ⟨r, hr⟩ : ∃ r, sizeR a b = r := ⟨_, rfl⟩
          rw [hr] at HR hsr cS
          have HCS := Lib.hid cS
          rw [ha, hb]
          clear hs hr cS q q2 ha hb
          go_wp2_with fail
          refine (HCS.out w5 (HP.out.below HB5.out (Nat.le_refl _))).mono ?_
          rintro e w6 ⟨rfl, hb6⟩
          have hw1 : IntKind.i64.wrap (-r) = -r := by rw [IntKind.wrap_i64]; omega
          go_wp2_with fail
          go_ret
          exact ⟨ret_num HR.out.symm, HB5.out.trans (hb6.mono hzz)⟩
    · rw [show decide (numOk b) = false from decide_eq_false hnb]
      have HR := Lib.hid (HNO.out (fun h => hnb h.2))
      clear hnb
      go_wp2_with fail
      go_ret
      exact ⟨ret_num HR.out.symm, b4⟩
  · rw [show decide (numOk a) = false from decide_eq_false hna]
    have HR := Lib.hid (HNO.out (fun h => hna h.1))
    clear hna
    go_wp2_with fail
    go_ret
    exact ⟨ret_num HR.out.symm, b3⟩
end Go.Proofs.YtbflkcldjjpioaaDoor

/-
  FnExactCompareNum returns true for every two values that can be read; they read as they did; no conditions.
-/
namespace Go.Proofs.YtbflkcldjjpioaaDoor.fnExactCompareNum
open Go.ChangeShapes Go.WideShapes Go.ChangeAt Go.RowKit
open Go.ChangeMaps (open_string shut_string)
set_option linter.unusedVariables false

set_option maxHeartbeats 4000000 in
theorem walk (t0 : V) (A0 : Option Addr) (c0 : Nat) (f0 : t0.fits) (t1 : V) (A1 : Option Addr) (c1 : Nat) (f1 : t1.fits) (w : World) (h0 : Vs.at_ w 0 w.heap.size t0.kids A0) (h1 : Vs.at_ w 0 w.heap.size t1.kids A1) (hP : Pow10 w) (hT : Tabs w) :
    Calls Tryd.prog 7 #[t0.agg A0 c0, t1.agg A1 c1] w fun e w' => e = .returned (.bool true) ∧ Below w.heap.size w w' := by
  have H0 := Lib.hid h0
  have H1 := Lib.hid h1
  clear h0 h1
  have HP0 := Lib.hid hP
  clear hP
  have HT0 := Lib.hid hT
  clear hT
  by_cases hwt : t0.weight ≤ 1048576
  · have e1 : szR 1048576 t0.weight = 1048576 - t0.weight := by rw [szR, if_pos (by omega)]
    have hn : t0.nodes ≤ 1048577 := by have := V.nodes_weight t0; omega
    have HE := Lib.hid e1
    clear e1
    by_cases hwt1 : t0.weight + t1.weight ≤ 1048576
    · have e2 : szR (1048576 - t0.weight) t1.weight = 1048576 - t0.weight - t1.weight := by rw [szR, if_pos (by omega)]
      have hm : t1.nodes ≤ 1048577 := by have := V.nodes_weight t1; omega
      have HE1 := Lib.hid e2
      clear e2
      have cS := fun A B ca cb W h h' => specCompareNum t0 t1 A B ca cb W f0 f1 hwt (by omega) h h'
      have cI := fun A B ca cb W (hb : Below w.heap.size w W) h h' => implCompareNum t0 t1 A B ca cb W f0 f1 hwt (by omega) (HP0.out.below hb (Nat.le_refl _)) (HT0.out.below hb) h h'
      obtain ⟨rr, hrr⟩ : ∃ rr, cnR t0 t1 = rr := ⟨_, rfl⟩
      rw [hrr] at cS cI
      have hbn : (rr != rr) = false := by simp
      have hbe : (rr == rr) = true := by simp
      have HCS := Lib.hid cS
      have HCI := Lib.hid cI
      clear cS cI hrr
      unfold V.agg
      go_enter Tryd.func7, Tryd.ntmps7
      go_wp2_with fail
      obtain ⟨w2, hw2, Ba, Bb, b1, z2⟩ := two_new w 29 29 #[.int .i64 t0.k, .int .i64 t0.n, .int .i64 t0.e, .string t0.s, .slice A0 t0.kids.length c0] #[.int .i64 t1.k, .int .i64 t1.n, .int .i64 t1.e, .string t1.s, .slice A1 t1.kids.length c1]
      rw [← hw2]
      clear hw2
      have at0 := Lib.hid (Vs.at_more (Nat.le_refl _) b1.size _ _ (Vs.at_below H0.out b1 (Nat.le_refl _)))
      have at1 := Lib.hid (Vs.at_more (Nat.le_refl _) b1.size _ _ (Vs.at_below H1.out b1 (Nat.le_refl _)))
      have sa := Ba.lt
      have sb := Bb.lt
      refine (szValue_any t0 A0 c0 1048576 w2 (by omega) (by omega) f0 at0.out).mono ?_
      rintro e w3 ⟨rfl, hb3⟩
      rw [HE.out]
      obtain ⟨p0, p1, p2, p3, p4⟩ := (Bb.below hb3 sb).five
      go_wp2_with fail
      refine (szValue_any t1 A1 c1 (1048576 - t0.weight) w3 (by omega) (by omega) f1 (Vs.at_more (Nat.le_refl _) hb3.size _ _ (Vs.at_below at1.out hb3 (Nat.le_refl _)))).mono ?_
      rintro e w4 ⟨rfl, hb4'⟩
      rw [HE1.out]
      have hb4 := hb3.trans (hb4'.mono hb3.size)
      clear p0 p1 p2 p3 p4 hb3 hb4'
      obtain ⟨p0, p1, p2, p3, p4⟩ := (Ba.below hb4 sa).five
      obtain ⟨q0, q1, q2, q3, q4⟩ := (Bb.below hb4 sb).five
      go_wp2_with fail
      have keep0 : ∀ w' : World, Below w2.heap.size w2 w' → w'.cell? ⟨w.heap.size, 0, none⟩ = some (.int .i64 t0.k) ∧ w'.cell? ⟨w.heap.size, 1, none⟩ = some (.int .i64 t0.n) ∧ w'.cell? ⟨w.heap.size, 2, none⟩ = some (.int .i64 t0.e) ∧ w'.cell? ⟨w.heap.size, 3, none⟩ = some (.string t0.s) ∧ w'.cell? ⟨w.heap.size, 4, none⟩ = some (.slice A0 t0.kids.length c0) ∧ w'.cell? ⟨w.heap.size + 1, 0, none⟩ = some (.int .i64 t1.k) ∧ w'.cell? ⟨w.heap.size + 1, 1, none⟩ = some (.int .i64 t1.n) ∧ w'.cell? ⟨w.heap.size + 1, 2, none⟩ = some (.int .i64 t1.e) ∧ w'.cell? ⟨w.heap.size + 1, 3, none⟩ = some (.string t1.s) ∧ w'.cell? ⟨w.heap.size + 1, 4, none⟩ = some (.slice A1 t1.kids.length c1) ∧ Below w2.heap.size w2 w' := by
        intro w' hb
        obtain ⟨p0, p1, p2, p3, p4⟩ := (Ba.below hb sa).five
        obtain ⟨q0, q1, q2, q3, q4⟩ := (Bb.below hb sb).five
        exact ⟨p0, p1, p2, p3, p4, q0, q1, q2, q3, q4, hb⟩
      have hb40 := hb4
      have KE := Lib.hid keep0
      clear keep0 hb4
      go_region_held3 (fun w' => w'.cell? ⟨w.heap.size, 0, none⟩ = some (.int .i64 t0.k) ∧ w'.cell? ⟨w.heap.size, 1, none⟩ = some (.int .i64 t0.n) ∧ w'.cell? ⟨w.heap.size, 2, none⟩ = some (.int .i64 t0.e) ∧ w'.cell? ⟨w.heap.size, 3, none⟩ = some (.string t0.s) ∧ w'.cell? ⟨w.heap.size, 4, none⟩ = some (.slice A0 t0.kids.length c0) ∧ w'.cell? ⟨w.heap.size + 1, 0, none⟩ = some (.int .i64 t1.k) ∧ w'.cell? ⟨w.heap.size + 1, 1, none⟩ = some (.int .i64 t1.n) ∧ w'.cell? ⟨w.heap.size + 1, 2, none⟩ = some (.int .i64 t1.e) ∧ w'.cell? ⟨w.heap.size + 1, 3, none⟩ = some (.string t1.s) ∧ w'.cell? ⟨w.heap.size + 1, 4, none⟩ = some (.slice A1 t1.kids.length c1) ∧ Below w2.heap.size w2 w') (first | exact KE.out _ hb8 | exact KE.out _ hb7 | exact KE.out _ hb6 | exact KE.out _ hb5 | exact KE.out _ hb40.drew | exact KE.out _ hb40)
        (first
        | (have hgate := hb6; clear hgate; go_at_call 20; refine (HCS.out B0 B1 d0 d1 w6 (Vs.at_more (Nat.zero_le _) sz6 _ _ atB02) (Vs.at_more (Nat.zero_le _) (Nat.le_refl _) _ _ atB1)).mono ?_; rintro e w7 ⟨rfl, hb7'⟩; have hb7 := hb6.trans (hb7'.mono hb6.size))
        | (have hgate := hb5; clear hgate; go_at_call 15; refine (toValue_any t1 A1 c1 w5 hm (Vs.at_more (Nat.le_refl _) hb5.size _ _ (Vs.at_below at1.out hb5 (Nat.le_refl _)))).mono ?_; rintro e w6 ⟨B1, d1, rfl, hd1, atB1, hb6'⟩; have hb6 := hb5.trans (hb6'.mono hb5.size); have sz6 : w5.heap.size ≤ w6.heap.size := hb6'.size; have atB02 := Vs.at_below atB0 hb6' (Nat.le_refl _); unfold V.agg)
        | (go_at_call 15; refine (toValue_any t0 A0 c0 w4.drew hn (Vs.at_more (Nat.le_refl _) hb40.size _ _ (Vs.at_drew (Vs.at_below at0.out hb40 (Nat.le_refl _))))).mono ?_; rintro e w5 ⟨B0, d0, rfl, hd0, atB0, hb5'⟩; have hb5 := hb40.drew.trans (hb5'.mono hb40.size); have sz5 : w4.heap.size ≤ w5.heap.size := hb5'.size; unfold V.agg))
      clear KE atB02 atB1 atB0 hb5' hb6' hb7' hb5 hb6 hd0 hd1
      obtain ⟨p0, p1, p2, p3, p4⟩ := (Ba.below hb7 sa).five
      go_wp2_with fail
      refine (toValue_any t0 A0 c0 w7 hn (Vs.at_more (Nat.le_refl _) hb7.size _ _ (Vs.at_below at0.out hb7 (Nat.le_refl _)))).mono ?_
      rintro e w8 ⟨B0, d0, rfl, hd0, atB0, hb8'⟩
      have hb8 := hb7.trans (hb8'.mono hb7.size)
      clear p0 p1 p2 p3 p4
      unfold V.agg
      obtain ⟨w9, hw9⟩ : ∃ w9, w9 = w8.alloc (.cells #[.int .i64 t0.k, .int .i64 t0.n, .int .i64 t0.e, .string t0.s, .slice B0 t0.kids.length d0] 34) := ⟨_, rfl⟩
      have Bx0 : Blk w9 w8.heap.size 34 #[.int .i64 t0.k, .int .i64 t0.n, .int .i64 t0.e, .string t0.s, .slice B0 t0.kids.length d0] := by rw [hw9]; exact Blk.new w8 _ _
      have hb9 : Below w2.heap.size w2 w9 := by rw [hw9]; exact hb8.alloc hb8.size _
      have z9 : w9.heap.size = w8.heap.size + 1 := by rw [hw9]; simp
      have atx0 : Vs.at_ w9 0 w9.heap.size t0.kids B0 := by rw [hw9]; exact Vs.at_more (Nat.zero_le _) (by simp) _ _ (Vs.at_alloc atB0 (Nat.le_refl _) _)
      obtain ⟨q0, q1, q2, q3, q4⟩ := (Bb.below hb9 sb).five
      rw [hw9] at q0 q1 q2 q3 q4
      go_wp2_with fail
      rw [← hw9] at *
      clear hw9
      refine (toValue_any t1 A1 c1 w9 hm (Vs.at_more (Nat.le_refl _) hb9.size _ _ (Vs.at_below at1.out hb9 (Nat.le_refl _)))).mono ?_
      rintro e w10 ⟨B1, d1, rfl, hd1, atB1, hb10'⟩
      have hb10 := hb9.trans (hb10'.mono hb9.size)
      clear q0 q1 q2 q3 q4
      unfold V.agg
      obtain ⟨w11, hw11⟩ : ∃ w11, w11 = w10.alloc (.cells #[.int .i64 t1.k, .int .i64 t1.n, .int .i64 t1.e, .string t1.s, .slice B1 t1.kids.length d1] 34) := ⟨_, rfl⟩
      have Bx1 : Blk w11 w10.heap.size 34 #[.int .i64 t1.k, .int .i64 t1.n, .int .i64 t1.e, .string t1.s, .slice B1 t1.kids.length d1] := by rw [hw11]; exact Blk.new w10 _ _
      have sx0 : w8.heap.size < w9.heap.size := by omega
      have Bx0 : Blk w11 w8.heap.size 34 #[.int .i64 t0.k, .int .i64 t0.n, .int .i64 t0.e, .string t0.s, .slice B0 t0.kids.length d0] := by rw [hw11]; exact (Bx0.below hb10' sx0).alloc _
      have hb11 : Below w2.heap.size w2 w11 := by rw [hw11]; exact hb10.alloc hb10.size _
      have z11 : w11.heap.size = w10.heap.size + 1 := by rw [hw11]; simp
      have atx1 : Vs.at_ w11 0 w11.heap.size t1.kids B1 := by rw [hw11]; exact Vs.at_more (Nat.zero_le _) (by simp) _ _ (Vs.at_alloc atB1 (Nat.le_refl _) _)
      have atx0 : Vs.at_ w11 0 w11.heap.size t0.kids B0 := by rw [hw11]; exact Vs.at_more (Nat.zero_le _) (by have := hb10'.size; simp; omega) _ _ (Vs.at_alloc (Vs.at_below atx0 hb10' (Nat.le_refl _)) (by have := hb10'.size; omega) _)
      have s9 : w9.heap.size ≤ w10.heap.size := hb10'.size
      obtain ⟨p0, p1, p2, p3, p4⟩ := Bx0.five
      obtain ⟨q0, q1, q2, q3, q4⟩ := Bx1.five
      rw [hw11] at p0 p1 p2 p3 p4 q0 q1 q2 q3 q4
      go_wp2_with fail
      rw [← hw11] at *
      clear hw11
      clear p0 p1 p2 p3 p4 q0 q1 q2 q3 q4
      refine (HCI.out B0 B1 d0 d1 w11 (b1.trans (hb11.mono b1.size)) atx0 atx1).mono ?_
      rintro e w12 ⟨rfl, hb12⟩
      have sx0 : w8.heap.size < w11.heap.size := by omega
      have sx1 : w10.heap.size < w11.heap.size := by omega
      have keep12 : ∀ w' : World, Below w11.heap.size w11 w' → w'.cell? ⟨w8.heap.size, 0, none⟩ = some (.int .i64 t0.k) ∧ w'.cell? ⟨w8.heap.size, 1, none⟩ = some (.int .i64 t0.n) ∧ w'.cell? ⟨w8.heap.size, 2, none⟩ = some (.int .i64 t0.e) ∧ w'.cell? ⟨w8.heap.size, 3, none⟩ = some (.string t0.s) ∧ w'.cell? ⟨w8.heap.size, 4, none⟩ = some (.slice B0 t0.kids.length d0) ∧ w'.cell? ⟨w.heap.size, 0, none⟩ = some (.int .i64 t0.k) ∧ w'.cell? ⟨w.heap.size, 1, none⟩ = some (.int .i64 t0.n) ∧ w'.cell? ⟨w.heap.size, 2, none⟩ = some (.int .i64 t0.e) ∧ w'.cell? ⟨w.heap.size, 3, none⟩ = some (.string t0.s) ∧ w'.cell? ⟨w.heap.size, 4, none⟩ = some (.slice A0 t0.kids.length c0) ∧ Below w11.heap.size w11 w' := by
        intro w' hb
        obtain ⟨p0, p1, p2, p3, p4⟩ := (Bx0.below hb sx0).five
        obtain ⟨q0, q1, q2, q3, q4⟩ := (Ba.below (hb11.trans (hb.mono hb11.size)) sa).five
        exact ⟨p0, p1, p2, p3, p4, q0, q1, q2, q3, q4, hb⟩
      have KE12 := Lib.hid keep12
      obtain ⟨p0, p1, p2, p3, p4, q0, q1, q2, q3, q4, _⟩ := keep12 _ hb12
      clear keep12
      go_wp2_with fail
      go_region_held3 (fun w' => w'.cell? ⟨w8.heap.size, 0, none⟩ = some (.int .i64 t0.k) ∧ w'.cell? ⟨w8.heap.size, 1, none⟩ = some (.int .i64 t0.n) ∧ w'.cell? ⟨w8.heap.size, 2, none⟩ = some (.int .i64 t0.e) ∧ w'.cell? ⟨w8.heap.size, 3, none⟩ = some (.string t0.s) ∧ w'.cell? ⟨w8.heap.size, 4, none⟩ = some (.slice B0 t0.kids.length d0) ∧ w'.cell? ⟨w.heap.size, 0, none⟩ = some (.int .i64 t0.k) ∧ w'.cell? ⟨w.heap.size, 1, none⟩ = some (.int .i64 t0.n) ∧ w'.cell? ⟨w.heap.size, 2, none⟩ = some (.int .i64 t0.e) ∧ w'.cell? ⟨w.heap.size, 3, none⟩ = some (.string t0.s) ∧ w'.cell? ⟨w.heap.size, 4, none⟩ = some (.slice A0 t0.kids.length c0) ∧ Below w11.heap.size w11 w') (first | exact KE12.out _ hb14 | exact KE12.out _ hb13 | exact KE12.out _ hb12.drew | exact KE12.out _ hb12)
        (first
        | (have hgate := hb13; clear hgate; go_at_call 17; refine (eqValue_any t0 B0 D12 d0 e12 w13 hn (Vs.at_more (Nat.le_refl _) hb13.size _ _ (Vs.at_below atx0 hb13 (Nat.le_refl _))) (Vs.at_more (Nat.zero_le _) (Nat.le_refl _) _ _ atD12)).mono ?_; rintro e w14 ⟨rfl, hb14'⟩; have hb14 := hb13.trans (hb14'.mono hb13.size))
        | (go_at_call 15; refine (toValue_any t0 A0 c0 w12.drew hn (Vs.at_more (Nat.le_refl _) (Nat.le_trans hb11.size hb12.size) _ _ (Vs.at_drew (Vs.at_below at0.out (hb11.trans (hb12.mono hb11.size)) (Nat.le_refl _))))).mono ?_; rintro e w13 ⟨D12, e12, rfl, he12, atD12, hb13'⟩; have hb13 := hb12.drew.trans (hb13'.mono hb12.size); unfold V.agg))
      clear p0 p1 p2 p3 p4 q0 q1 q2 q3 q4
      have keep14 : ∀ w' : World, Below w11.heap.size w11 w' → w'.cell? ⟨w10.heap.size, 0, none⟩ = some (.int .i64 t1.k) ∧ w'.cell? ⟨w10.heap.size, 1, none⟩ = some (.int .i64 t1.n) ∧ w'.cell? ⟨w10.heap.size, 2, none⟩ = some (.int .i64 t1.e) ∧ w'.cell? ⟨w10.heap.size, 3, none⟩ = some (.string t1.s) ∧ w'.cell? ⟨w10.heap.size, 4, none⟩ = some (.slice B1 t1.kids.length d1) ∧ w'.cell? ⟨w.heap.size + 1, 0, none⟩ = some (.int .i64 t1.k) ∧ w'.cell? ⟨w.heap.size + 1, 1, none⟩ = some (.int .i64 t1.n) ∧ w'.cell? ⟨w.heap.size + 1, 2, none⟩ = some (.int .i64 t1.e) ∧ w'.cell? ⟨w.heap.size + 1, 3, none⟩ = some (.string t1.s) ∧ w'.cell? ⟨w.heap.size + 1, 4, none⟩ = some (.slice A1 t1.kids.length c1) ∧ Below w11.heap.size w11 w' := by
        intro w' hb
        obtain ⟨p0, p1, p2, p3, p4⟩ := (Bx1.below hb sx1).five
        obtain ⟨q0, q1, q2, q3, q4⟩ := (Bb.below (hb11.trans (hb.mono hb11.size)) sb).five
        exact ⟨p0, p1, p2, p3, p4, q0, q1, q2, q3, q4, hb⟩
      have KE14 := Lib.hid keep14
      obtain ⟨p0, p1, p2, p3, p4, q0, q1, q2, q3, q4, _⟩ := keep14 _ hb14
      clear keep14
      go_wp2_with fail
      go_region_held3 (fun w' => w'.cell? ⟨w10.heap.size, 0, none⟩ = some (.int .i64 t1.k) ∧ w'.cell? ⟨w10.heap.size, 1, none⟩ = some (.int .i64 t1.n) ∧ w'.cell? ⟨w10.heap.size, 2, none⟩ = some (.int .i64 t1.e) ∧ w'.cell? ⟨w10.heap.size, 3, none⟩ = some (.string t1.s) ∧ w'.cell? ⟨w10.heap.size, 4, none⟩ = some (.slice B1 t1.kids.length d1) ∧ w'.cell? ⟨w.heap.size + 1, 0, none⟩ = some (.int .i64 t1.k) ∧ w'.cell? ⟨w.heap.size + 1, 1, none⟩ = some (.int .i64 t1.n) ∧ w'.cell? ⟨w.heap.size + 1, 2, none⟩ = some (.int .i64 t1.e) ∧ w'.cell? ⟨w.heap.size + 1, 3, none⟩ = some (.string t1.s) ∧ w'.cell? ⟨w.heap.size + 1, 4, none⟩ = some (.slice A1 t1.kids.length c1) ∧ Below w11.heap.size w11 w') (first | exact KE14.out _ hb16 | exact KE14.out _ hb15 | exact KE14.out _ hb14.drew | exact KE14.out _ hb14)
        (first
        | (have hgate := hb15; clear hgate; go_at_call 17; refine (eqValue_any t1 B1 D14 d1 e14 w15 hm (Vs.at_more (Nat.le_refl _) hb15.size _ _ (Vs.at_below atx1 hb15 (Nat.le_refl _))) (Vs.at_more (Nat.zero_le _) (Nat.le_refl _) _ _ atD14)).mono ?_; rintro e w16 ⟨rfl, hb16'⟩; have hb16 := hb15.trans (hb16'.mono hb15.size))
        | (go_at_call 15; refine (toValue_any t1 A1 c1 w14.drew hm (Vs.at_more (Nat.le_refl _) (Nat.le_trans hb11.size hb14.size) _ _ (Vs.at_drew (Vs.at_below at1.out (hb11.trans (hb14.mono hb11.size)) (Nat.le_refl _))))).mono ?_; rintro e w15 ⟨D14, e14, rfl, he14, atD14, hb15'⟩; have hb15 := hb14.drew.trans (hb15'.mono hb14.size); unfold V.agg))
      clear p0 p1 p2 p3 p4 q0 q1 q2 q3 q4
      go_wp2_with fail
      go_ret
      exact ⟨rfl, b1.trans ((hb11.trans (hb16.mono hb11.size)).mono b1.size)⟩
    · have e2 : szR (1048576 - t0.weight) t1.weight = -1 := by rw [szR, if_neg (by omega)]
      have HE1 := Lib.hid e2
      clear e2
      unfold V.agg
      go_enter Tryd.func7, Tryd.ntmps7
      go_wp2_with fail
      obtain ⟨w2, hw2, Ba, Bb, b1, z2⟩ := two_new w 29 29 #[.int .i64 t0.k, .int .i64 t0.n, .int .i64 t0.e, .string t0.s, .slice A0 t0.kids.length c0] #[.int .i64 t1.k, .int .i64 t1.n, .int .i64 t1.e, .string t1.s, .slice A1 t1.kids.length c1]
      rw [← hw2]
      clear hw2
      have at0 := Lib.hid (Vs.at_more (Nat.le_refl _) b1.size _ _ (Vs.at_below H0.out b1 (Nat.le_refl _)))
      have at1 := Lib.hid (Vs.at_more (Nat.le_refl _) b1.size _ _ (Vs.at_below H1.out b1 (Nat.le_refl _)))
      have sa := Ba.lt
      have sb := Bb.lt
      refine (szValue_any t0 A0 c0 1048576 w2 (by omega) (by omega) f0 at0.out).mono ?_
      rintro e w3 ⟨rfl, hb3⟩
      rw [HE.out]
      obtain ⟨p0, p1, p2, p3, p4⟩ := (Bb.below hb3 sb).five
      go_wp2_with fail
      refine (szValue_any t1 A1 c1 (1048576 - t0.weight) w3 (by omega) (by omega) f1 (Vs.at_more (Nat.le_refl _) hb3.size _ _ (Vs.at_below at1.out hb3 (Nat.le_refl _)))).mono ?_
      rintro e w4 ⟨rfl, hb4'⟩
      rw [HE1.out]
      have hb4 := hb3.trans (hb4'.mono hb3.size)
      clear p0 p1 p2 p3 p4 hb3 hb4'
      go_wp2_with fail
      go_ret
      exact ⟨rfl, b1.trans (hb4.mono b1.size)⟩
  · have e1 : szR 1048576 t0.weight = -1 := by rw [szR, if_neg (by omega)]
    have HE := Lib.hid e1
    clear e1
    unfold V.agg
    go_enter Tryd.func7, Tryd.ntmps7
    go_wp2_with fail
    obtain ⟨w2, hw2, Ba, Bb, b1, z2⟩ := two_new w 29 29 #[.int .i64 t0.k, .int .i64 t0.n, .int .i64 t0.e, .string t0.s, .slice A0 t0.kids.length c0] #[.int .i64 t1.k, .int .i64 t1.n, .int .i64 t1.e, .string t1.s, .slice A1 t1.kids.length c1]
    rw [← hw2]
    clear hw2
    have at0 := Lib.hid (Vs.at_more (Nat.le_refl _) b1.size _ _ (Vs.at_below H0.out b1 (Nat.le_refl _)))
    have at1 := Lib.hid (Vs.at_more (Nat.le_refl _) b1.size _ _ (Vs.at_below H1.out b1 (Nat.le_refl _)))
    have sa := Ba.lt
    have sb := Bb.lt
    refine (szValue_any t0 A0 c0 1048576 w2 (by omega) (by omega) f0 at0.out).mono ?_
    rintro e w3 ⟨rfl, hb3⟩
    rw [HE.out]
    obtain ⟨p0, p1, p2, p3, p4⟩ := (Bb.below hb3 sb).five
    go_wp2_with fail
    go_ret
    exact ⟨rfl, b1.trans (hb3.mono b1.size)⟩

set_option maxRecDepth 100000 in
theorem lifted (os : Os) (started : os.Started) (H : Type) (enc : TypeId × Value → H) :
    ReturnsInHanded {} Tryd.checked os 7 .any (fun w args => (Rows.fnExactCompareNumSpec.pre enc Tryd.prog Tryd.f7 [] false w args ∧ laidMetH Tryd.prog Rows.fnExactCompareNumRow.laid w) ∧ sizedMet enc Tryd.prog Tryd.f7 (OpenSpec.ofChange Rows.fnExactCompareNumSpec) false w args)
      (Rows.fnExactCompareNumSpec.post enc Tryd.prog Tryd.f7 false true false false) := by
  refine returnsInHanded_of_change_and (C := Tryd.checked) (X := fun w _ => laidMetH Tryd.prog Rows.fnExactCompareNumRow.laid w) (fun _ _ _ hh h => h.of_heap hh) own started (by kernel_rfl) Tryd.func7
    (ChangeSpec.witness_shaped (enc := enc) (C := Tryd.checked) (os := os) (X := fun w _ => laidMetH Tryd.prog Rows.fnExactCompareNumRow.laid w) false (World.laidAll Tryd.prog os Rows.fnExactCompareNumRow.laid) #[.agg #[.int .i64 0, .int .i64 0, .int .i64 0, .string ByteArray.empty, .slice none 0 0], .agg #[.int .i64 0, .int .i64 0, .int .i64 0, .string ByteArray.empty, .slice none 0 0]] 8 (World.laidAll_os _ _ _)
      (World.shaped_of_ZipB (by kernel_rfl) (by kernel_rfl)) (by kernel_rfl) (by kernel_rfl) (by kernel_rfl)
      (by rw [MakeChecks.laidMetH_plain _ _ _ (by kernel_rfl)]; exact laidMet_laidAll _ (by kernel_rfl) (by kernel_rfl))) ?_
  intro W base args ds gs before hval0 hW _ _ hL _
  rw [MakeChecks.laidMetH_plain _ _ _ (by kernel_rfl)] at hL
  have hP : Pow10 W := pow_of_laid hL (.tail _ (.tail _ (.head _)))
  have hT : Tabs W := tabs_of_laid hL (.tail _ (.tail _ (.tail _ (.head _)))) (.tail _ (.tail _ (.tail _ (.tail _ (.head _)))))
  have hval : ∀ (j : Nat) t v, Tryd.f7.params[j]? = some t → args[j]? = some v → Value.okWide Tryd.prog W .any base t v := hval0
  have hW' := hW
  obtain ⟨p, q, hA0, hV, rfl, hfz, hnd⟩ := hW
  have hA : DataW.TrodAll enc Tryd.prog W 0 (fun _ => true) true Tryd.f7.params.toList args.toList ds p := hA0
  rw [Tryd.params7] at hA hval
  obtain ⟨v0, vs0, d0, ds0, p0, q0, hargs, rfl, rfl, h0, r0⟩ := trodAll_cons hA
  obtain ⟨v1, vs1, d1, ds1, p1, q1, rfl, rfl, rfl, h1, r1⟩ := trodAll_cons r0
  obtain ⟨rfl, rfl, rfl⟩ := trodAll_nil r1
  obtain rfl : args = #[v0, v1] := by cases args; simp_all
  obtain ⟨rfl, rfl⟩ := trodVars_none hV
  have k0 := h0
  have lt0 : ∀ x ∈ p0, x.block < W.heap.size := by obtain ⟨m, hm⟩ := k0; exact DataW.trod_lt m _ _ _ hm
  obtain ⟨t0, A0, c0, rfl, f0, at0⟩ := open_value (hval 0 29 v0 rfl rfl) h0
  have k1 := h1
  have lt1 : ∀ x ∈ p1, x.block < W.heap.size := by obtain ⟨m, hm⟩ := k1; exact DataW.trod_lt m _ _ _ hm
  obtain ⟨t1, A1, c1, rfl, f1, at1⟩ := open_value (hval 1 29 v1 rfl rfl) h1
  clear hA0 hval0
  refine (walk t0 A0 c0 f0 t1 A1 c1 f1 W at0 at1 hP hT).mono fun e W' ⟨he, bel⟩ => ?_
  subst he
  exact ⟨_, rfl, _, _, _, [], _, [], hW', trodAll_mk1 (shut_bool Tryd.underlying4 _), (trodAll_cons_mk (Below.trod laidOut (by kernel_rfl) (of_decide_eq_true (by kernel_rfl)) k0 bel lt0) (trodAll_cons_mk (Below.trod laidOut (by kernel_rfl) (of_decide_eq_true (by kernel_rfl)) k1 bel lt1) trodAll_mk0)), rfl, bel.frame _, fun h => by cases h⟩

theorem over : Rows.fnExactCompareNumRow.holds Tryd.pinned (OpenSpec.ofChange Rows.fnExactCompareNumSpec) :=
  OpenClaim.holds_of_wide 7 Tryd.f7 rfl rfl rfl rfl rfl rfl rfl ⟨rfl, rfl, rfl, rfl, rfl⟩ rfl rfl rfl rfl rfl (by kernel_rfl) Tryd.func7 (by kernel_rfl)
    (of_decide_eq_true (by kernel_rfl)) (by unfold Func.isWrapper; first | (rw [if_pos (by decide +kernel)]; kernel_rfl) | (rw [if_neg (by decide +kernel)]; exact ⟨rfl, rfl⟩))
    (fun os started H enc _ => lifted os started H enc)

theorem proved : Rows.FnExactCompareNumCardSaid :=
  Claim7.holds_tied_plain_at .later [] _ _ _ _ over (fun _ h => by cases h) (by kernel_rfl) (fun _ h => by cases h) fnExactCompareNum_row_tie rfl ⟨rfl, rfl⟩ (by kernel_rfl) rfl
    (fun f fn hf hfn => by
      obtain rfl : f = 7 := Option.some.inj ((show Tryd.prog.funcNamed "loop.example/g00421/laws.FnExactCompareNum" = some 7 by kernel_rfl).symm.trans hf) |>.symm
      obtain rfl : fn = Tryd.f7 := (Option.some.inj (Tryd.func7.symm.trans hfn)).symm
      exact ⟨by kernel_rfl, fun j t ht => by
        rw [Tryd.params7] at ht
        have hm : t ∈ [29, 29] := by simpa using Array.mem_of_getElem? ht
        have hall : ([29, 29].all fun u => !Tryd.prog.wantsStandIn u) = true := by kernel_rfl
        exact (show Tryd.prog.wantsStandIn t = false by simpa using List.all_eq_true.1 hall t hm)⟩)
    (by kernel_rfl)
end Go.Proofs.YtbflkcldjjpioaaDoor.fnExactCompareNum
